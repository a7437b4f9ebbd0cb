/- Contracts: the library's stable sort,of vectors; Contracts: Times,Fits,and the statement's function; Contracts: all basic moves; Contracts: comparing,sorting,vectors for others. -/
import Derived.Test.YtlonaefihjdkpaaTKC
import Derived.Test.YtlonaefihjdkpaaTLS
import Derived.Test.YtlonaefihjdkpaaTKP
import Derived.Test.YtlonaefihjdkpaaTLQ
import Derived.Test.YtlonaefihjdkpaaUQS
namespace Go.Proofs.Ytlonaefihjdkpaa
open Go.Abs AVal Go.Abs.Srt
set_option linter.unusedSimpArgs false
attribute [local go_sem] W_skip W_keep KQ_canon canon Fr.norm W_seq W_block W_scope W_exit W_ret W_ops W_draw KQ_nil KQ_norm_seq KQ_exit_seq KQ_ret_seq KQ_norm_block KQ_ret_block KQ_exit_block KQ_exit_loop KQ_ret_loop O_nil O_cons S_call S_mv SE_mv SD_mv S_pick SE_pick SD_pick S_bin SE_bin SD_bin S_eqb SE_eqb SD_eqb S_eqv SE_eqv SD_eqv S_eqnil SE_eqnil SD_eqnil S_un SE_un SD_un S_conv SE_conv SD_conv S_mkfn SE_mkfn SD_mkfn S_load SE_load SD_load S_nilck SE_nilck SD_nilck S_slS SE_slS SD_slS S_slP SE_slP SD_slP S_fldA SE_fldA SD_fldA S_fld SE_fld SD_fld S_ixS SE_ixS SD_ixS S_ixP SE_ixP SD_ixP S_ixV SE_ixV SD_ixV S_ixStr SE_ixStr SD_ixStr S_ext SE_ext SD_ext S_len SE_len SD_len S_lenStr SE_lenStr SD_lenStr S_lenc SE_lenc SD_lenc S_mn SE_mn SD_mn S_mx SE_mx SD_mx S_build SE_build SD_build S_alloc SD_alloc S_box SD_box S_bslice SD_bslice S_mksl SD_mksl S_store SD_store S_append SD_append S_copy SD_copy S_clr SD_clr S_mlen SE_mlen SD_mlen S_mget SE_mget SD_mget S_mval SE_mval SD_mval S_mentry SE_mentry SD_mentry S_mkmap SD_mkmap S_mset SD_mset S_mrange SD_mrange S_mnext mlenA mgetA mvalA mentryA msetA mrangeA cells_mp isCell_mp cellsOk_mp aq_some aa_some al_some alA_some aqd_some aad_some ald_some ape_some D_done D_both D_early D_step SE_call SD_call IOpd.ev Fr.get Fr.put Fr.putd entryFr pickA binA binI isSh shI eqbA eqvA ints ints_mI Option.map_some eqnilA unA convA loadA nilckA intA slSA slPA fldAA fldVA ixSA ixPA ixVA ixStrA extA lenA lenStrA mnA mxA AVal.fits fillA fillOk buildA opa srcA appA stoA copA clrA rdFree zeros List.length_nil List.length_cons List.length_map List.map_cons List.map_nil Option.map_some Option.map_none if_true if_false ite_true ite_false true_and and_true and_self implies_true forall_const true_implies Bool.false_eq_true Bool.not_true Bool.not_false decide_eq_true_eq decide_eq_false_iff_not eq_self List.getElem?_cons_zero List.getElem?_cons_succ List.getElem?_nil List.set_cons_zero List.set_cons_succ List.nil_append List.cons_append List.append_nil List.replicate_zero List.replicate_succ Nat.zero_add false_implies rng_lt rng_end rng_get cells_I cells_B cells_sl cut_one Int.toNat_natCast Int.natCast_nonneg List.headD_cons Int.lt_irrefl not_false_eq_true decide_false decide_true mI_length mI_cells mI_sz mI_isCell mI_mid mI_append mI_take mI_drop cells_val cells_own cells_agg isCell_I isCell_B isCell_nil isCell_sl isCell_own isCell_ptr isCell_fn isCell_rp isCell_yld cellsOk_I cellsOk_B cellsOk_nil cellsOk_sl cellsOk_own cellsOk_ptr cellsOk_fn cellsOk_rp cellsOk_yld cellsOk_agg cells_nil cells_ptr cells_fn cells_rp List.all_cons List.all_nil Bool.and_true Nat.mul_one Nat.zero_mul Nat.one_mul List.take_zero List.take_nil List.drop_nil List.drop_zero List.not_mem_nil Nat.le_refl Nat.zero_le mS_length mS_cells mS_sz mS_isCell mS_mid mS_append mS_take mS_drop cells_sI isCell_sI cellsOk_sI sI_eq succ_le_self' List.take_succ_cons List.drop_succ_cons List.take_length beq_self_eq_true List.mem_cons or_false forall_eq mI_put mI_rep O_guard' D_earlyG' D_stepG' W_cond' G_tt G_tf G_ft G_ff GE_tt GE_tf GE_ft GE_ff GS_tt GS_tf GS_ft GS_ff G_u GE_u GS_u IC_t IC_f xft xff xtt xtf z00 z20 z22 z02 zz tn0
def Hs (H0 : AHeap) (id : Nat) (xs : List (List Int)) : AHeap := H0.set id (.cells (mI xs.flatten))
theorem Hs_len {H0 : AHeap} {id : Nat} {xs : List (List Int)} : (Hs H0 id xs).length = H0.length := by simp [Hs]
theorem Hs_get {H0 : AHeap} {id : Nat} {xs : List (List Int)} (h : id < H0.length) : (Hs H0 id xs)[id]? = some (.cells (mI xs.flatten)) := by simp [Hs,h]
theorem Hs_set {H0 : AHeap} {id : Nat} {xs : List (List Int)} {cs : List AVal} : (Hs H0 id xs).set id (.cells cs) = H0.set id (.cells cs) := by simp [Hs]
structure SEnv (H0 : AHeap) (id : Nat) (fv : AVal) (key : List Int → Int) (ok : List Int → Prop) : Prop where
  hid : id < H0.length
  hok : HOk (LPb H0.length) H0
  hfv : vid H0.length 3 fv = true
  h4 : ∀ x,ok x → x.length = 4
  cmp : ∀ (xs : List (List Int)) (x y : List Int),ok x → ok y → CallV Try.prog fv [vec x,vec y] (Hs H0 id xs) fun v H' => v = I (key x - key y) ∧ H' = Hs H0 id xs
section
variable {H0 : AHeap} {id : Nat} {fv : AVal} {key : List Int → Int} {ok : List Int → Prop}
theorem SEnv.hoks (E : SEnv H0 id fv key ok) (xs : List (List Int)) : HOk (LPb (Hs H0 id xs).length) (Hs H0 id xs) := by
  rw [Hs_len]; exact E.hok.set (by simp [blkN,mI_bnd])
theorem SEnv.len4 (E : SEnv H0 id fv key ok) {xs : List (List Int)} (h : ∀ x ∈ xs,ok x) : ∀ x ∈ xs,x.length = 4 := fun x hx => E.h4 x (h x hx)
theorem okD {xs : List (List Int)} (h : ∀ x ∈ xs,ok x) {i : Nat} (hi : i < xs.length) : ok (xs.getD i []) := by
  rw [List.getD_eq_getElem?_getD,List.getElem?_eq_getElem hi]; exact h _ (List.getElem_mem hi)
theorem moved_ok {a b : Nat} {xs ys : List (List Int)} (hm : Moved [] a b xs ys) (h : ∀ x ∈ xs,ok x) : ∀ x ∈ ys,ok x := fun x hx => h x (hm.perm.mem_iff.1 hx)
theorem SEnv.hokB (E : SEnv H0 id fv key ok) (xs ys : List (List Int)) : HOk (LPb (Hs H0 id xs).length) (Hs H0 id ys) := by
  rw [Hs_len]; exact E.hok.set (by simp [blkN,mI_bnd])
theorem SEnv.leB (_ : SEnv H0 id fv key ok) (xs ys : List (List Int)) : (Hs H0 id xs).length ≤ (Hs H0 id ys).length := by rw [Hs_len,Hs_len]; exact Nat.le_refl _
theorem SEnv.hid' (E : SEnv H0 id fv key ok) (xs : List (List Int)) : id < (Hs H0 id xs).length := by rw [Hs_len]; exact E.hid
theorem SEnv.hfv' (E : SEnv H0 id fv key ok) (xs : List (List Int)) : vid (Hs H0 id xs).length 3 fv = true := by rw [Hs_len]; exact E.hfv
theorem Hs_put {ys zs : List (List Int)} : (Hs H0 id ys).set id (.cells (mI zs.flatten)) = Hs H0 id zs := Hs_set
theorem exch {ys : List (List Int)} (h4 : ∀ v ∈ ys,v.length = 4) {i j : Nat} (hi : i < ys.length) (hj : j < ys.length) :
    (ys.flatten.take (i * 4) ++ ys.getD j [] ++ ys.flatten.drop (i * 4 + 4) = (ys.set i (ys.getD j [])).flatten) ∧
    ((ys.set i (ys.getD j [])).flatten.take (j * 4) ++ ys.getD i [] ++ (ys.set i (ys.getD j [])).flatten.drop (j * 4 + 4) = (swp [] i j ys).flatten) ∧
    (mI (ys.set i (ys.getD j [])).flatten).length = ys.length * 4 ∧ (∀ i,i < ys.length → (mI (ys.getD i [])).length = 4 ∧ (vec (ys.getD i [])).cellsOk = true ∧ cut true 4 (mI (ys.getD i [])) = vec (ys.getD i [])) := by
  have h4' : ∀ v ∈ ys.set i (ys.getD j []),v.length = 4 := set4 h4 (getD4 h4 hj)
  refine ⟨flat_set h4 hi _,flat_set h4' (by simpa using hj) _,by rw [mF_len h4',List.length_set],fun i hi => ⟨by rw [mI_length,getD4 h4 hi],allI_cell _,cut_vec (getD4 h4 hi)⟩⟩
set_option maxHeartbeats 2000000 in
theorem s137 (E : SEnv H0 id fv key ok) (xs : List (List Int)) (hx : ∀ x ∈ xs,ok x) (hl : xs.length ≤ 1073741824) (a b n : Nat) (h1 : a + n ≤ b) (h2 : b + n ≤ xs.length) :
    Abs.Spec Try.prog 137 [.own id 0 xs.length xs.length 4,I a,I b,I n,fv] (Hs H0 id xs) fun v H' => v = .tup [] ∧ ∃ ys,H' = Hs H0 id ys ∧ Moved [] a (b + n) xs ys ∧ ∀ t,ys.getD t [] = xs.getD (swpI a b n t) [] := by
  refine Abs.Spec.walk mixed fn137 nn137 t137 q137 nt137 (by simp) ?_
  simp only [w137,go_sem,Nat.reduceEqDiff,Nat.reduceAdd,Nat.reduceLT,Nat.reduceLeDiff,reduceIte,reduceCtorEq]
  refine W_loop (fun q : { q : Nat × List (List Int) // q.1 ≤ n ∧ Moved [] a (b + n) xs q.2 ∧ ∀ t,q.2.getD t [] = xs.getD (swpI a b q.1 t) [] } => ([(0,.own id 0 xs.length xs.length 4),(1,I a),(2,I b),(3,I n),(10,I q.1.1)],Hs H0 id q.1.2)) (fun q => n - q.1.1) ⟨(0,xs),by omega,.refl,fun t => by rw [swpI_zero]⟩ (idρ _) (Wk.ok (E.hoks xs) (fun _ _ h => h) (Nat.le_refl _) (by
    intro q hq
    have := E.hid
    simp only [List.mem_cons,List.not_mem_nil,or_false] at hq
    rcases hq with rfl | rfl | rfl | rfl | rfl <;> exact ⟨rfl,by simp [vid,Hs_len,this]⟩) (fun _ h => by cases h)) ?_
  rintro ⟨⟨k,ys⟩,hk,hm,he⟩
  dsimp only at hk hm he ⊢
  have hyl := hm.len
  have hyok := moved_ok hm hx
  have hy4 := E.len4 hyok
  have hg := Hs_get (xs := ys) E.hid
  by_cases hkn : k < n
  · have hz : decide ((k : Int) < n) = true := decide_eq_true (by omega)
    have hwk : IntKind.i64.wrap ((k : Int) + 1) = ((k + 1 : Nat) : Int) := by rw [wrap64 (by omega) (by omega)]; rfl
    have hwa : IntKind.i64.wrap ((a : Int) + k) = ((a + k : Nat) : Int) := by rw [wrap64 (by omega) (by omega)]; rfl
    have hwb : IntKind.i64.wrap ((b : Int) + k) = ((b + k : Nat) : Int) := by rw [wrap64 (by omega) (by omega)]; rfl
    have hay : a + k < ys.length := by omega
    have hby : b + k < ys.length := by omega
    have ca := mF_cut' hy4 hay
    have cb := mF_cut' hy4 hby
    have hml : (mI ys.flatten).length = ys.length * 4 := mF_len hy4
    obtain ⟨p1,p2,p3,p4⟩ := exch hy4 hay hby
    obtain ⟨ma,oa,-⟩ := p4 _ hay
    obtain ⟨mb,ob,-⟩ := p4 _ hby
    have hg1 := Hs_get (H0 := H0) (xs := ys.set (a + k) (ys.getD (b + k) [])) E.hid
    simp only [w137L0,hz,hwk,hwa,hwb,hg,ca,cb,hml,cells_vec,ma,mb,oa,ob,p1,Hs_put,hg1,p3,p2,go_sem,Nat.reduceEqDiff,Nat.reduceAdd,Nat.reduceLT,Nat.reduceLeDiff,reduceIte,reduceCtorEq]
    repeat (refine ⟨by omega,?_⟩)
    refine roundN (E.hokB xs _) (fun _ _ h => h) (E.leB _ _) ⟨(k + 1,swp [] (a + k) (b + k) ys),by omega,hm.trans (swp_moved hay hby (by omega) (by omega) (by omega) (by omega)),fun t => by rw [swp_get hay hby,he,swpI_succ (by omega)]⟩ (by dsimp only; omega) rfl ?_
    intro q hq
    have := E.hid' (swp [] (a + k) (b + k) ys)
    simp only [List.mem_cons,List.not_mem_nil,or_false] at hq
    rcases hq with rfl | rfl | rfl | rfl | rfl <;> exact ⟨rfl,by simp [vid,this]⟩
  · have hz : decide ((k : Int) < n) = false := decide_eq_false (by omega)
    obtain rfl : k = n := by omega
    simp only [w137L0,hz,go_sem,Nat.reduceEqDiff,Nat.reduceAdd,Nat.reduceLT,Nat.reduceLeDiff,reduceIte,reduceCtorEq]
    exact leafN0 (E.hokB xs _) (fun _ _ h => h) (E.leB _ _) ⟨rfl,ys,rfl,hm,he⟩
set_option maxHeartbeats 2000000 in
theorem s135 (E : SEnv H0 id fv key ok) (xs : List (List Int)) (hx : ∀ x ∈ xs,ok x) (hl : xs.length ≤ 1073741824) (a m b : Nat) (h1 : a < m) (h2 : m < b) (h3 : b ≤ xs.length) :
    Abs.Spec Try.prog 135 [.own id 0 xs.length xs.length 4,I a,I m,I b,fv] (Hs H0 id xs) fun v H' => v = .tup [] ∧ ∃ ys,H' = Hs H0 id ys ∧ Moved [] a b xs ys ∧ ∀ t,ys.getD t [] = xs.getD (rotI a m b t) [] := by
  refine Abs.Spec.walk mixed fn135 nn135 t135 q135 nt135 (by simp) ?_
  have hw1 : IntKind.i64.wrap ((m : Int) - a) = ((m - a : Nat) : Int) := by rw [wrap64 (by omega) (by omega)]; omega
  have hw2 : IntKind.i64.wrap ((b : Int) - m) = ((b - m : Nat) : Int) := by rw [wrap64 (by omega) (by omega)]; omega
  simp only [w135,hw1,hw2,go_sem,Nat.reduceEqDiff,Nat.reduceAdd,Nat.reduceLT,Nat.reduceLeDiff,reduceIte,reduceCtorEq]
  refine W_loop (fun q : { q : Nat × Nat × List (List Int) // 0 < q.1 ∧ q.1 ≤ m - a ∧ 0 < q.2.1 ∧ q.2.1 ≤ b - m ∧ Moved [] a b xs q.2.2 ∧ ∀ t,q.2.2.getD (rotI (m - q.1) m (m + q.2.1) t) [] = xs.getD (rotI a m b t) [] } =>
    ([(0,.own id 0 xs.length xs.length 4),(2,I m),(4,fv),(10,I q.1.1),(11,I q.1.2.1)],Hs H0 id q.1.2.2)) (fun q => q.1.1 + q.1.2.1) ⟨(m - a,b - m,xs),by dsimp only; omega,by dsimp only; omega,by dsimp only; omega,by dsimp only; omega,.refl,fun t => by dsimp only; rw [show m - (m - a) = a by omega,show m + (b - m) = b by omega]⟩ (idρ _) (Wk.ok (E.hoks xs) (fun _ _ h => h) (Nat.le_refl _) (by
    intro q hq
    have := E.hid' xs
    simp only [List.mem_cons,List.not_mem_nil,or_false] at hq
    rcases hq with rfl | rfl | rfl | rfl | rfl <;> first | exact ⟨rfl,E.hfv' xs⟩ | exact ⟨rfl,by simp [vid,this]⟩) (fun _ h => by cases h)) ?_
  rintro ⟨⟨i,j,ys⟩,hi0,hi,hj0,hj,hm,he⟩
  dsimp only at hi0 hi hj0 hj hm he ⊢
  have hyl := hm.len
  have hyok := moved_ok hm hx
  have e1 : IntKind.i64.wrap ((m : Int) - i) = ((m - i : Nat) : Int) := by rw [wrap64 (by omega) (by omega)]; omega
  by_cases hij : i = j
  · subst hij
    have hz : ((i : Int) != i) = false := by simp
    simp only [w135L0,hz,w135T1,e1,go_sem,Nat.reduceEqDiff,Nat.reduceAdd,Nat.reduceLT,Nat.reduceLeDiff,reduceIte,reduceCtorEq]
    rw [← hyl]
    refine CallK.by (CallV.of_spec (first := []) (cap := []) (s137 E ys hyok (by omega) (m - i) m i (by omega) (by omega))) fun v H' ⟨hv,zs,hH,hm2,he2⟩ => ?_
    subst hv hH
    simp only [go_sem,Nat.reduceEqDiff,Nat.reduceAdd,Nat.reduceLT,Nat.reduceLeDiff,reduceIte,reduceCtorEq]
    refine leafN0 (E.hokB xs _) (fun _ _ h => h) (E.leB _ _) ⟨rfl,zs,rfl,hm.trans (hm2.mono (by omega) (by omega)),fun t => ?_⟩
    rw [he2,rot_eq (by omega),he]
  · have hz : ((i : Int) != j) = true := by rw [bne_iff_ne]; omega
    by_cases hgt : j < i
    · have hz2 : decide ((i : Int) > j) = true := decide_eq_true (by omega)
      have e2 : IntKind.i64.wrap ((i : Int) - j) = ((i - j : Nat) : Int) := by rw [wrap64 (by omega) (by omega)]; omega
      simp only [w135L0,hz,hz2,e1,go_sem,Nat.reduceEqDiff,Nat.reduceAdd,Nat.reduceLT,Nat.reduceLeDiff,reduceIte,reduceCtorEq]
      rw [← hyl]
      refine CallK.by (CallV.of_spec (first := []) (cap := []) (s137 E ys hyok (by omega) (m - i) m j (by omega) (by omega))) fun v H' ⟨hv,zs,hH,hm2,he2⟩ => ?_
      subst hv hH
      simp only [e2,go_sem,Nat.reduceEqDiff,Nat.reduceAdd,Nat.reduceLT,Nat.reduceLeDiff,reduceIte,reduceCtorEq]
      refine roundN (E.hokB xs _) (fun _ _ h => h) (E.leB _ _) ⟨(i - j,j,zs),by dsimp only; omega,by dsimp only; omega,hj0,hj,hm.trans (hm2.mono (by omega) (by omega)),fun t => ?_⟩ (by dsimp only; omega) rfl ?_
      · dsimp only
        rw [he2,show m - (i - j) = m - i + j by omega,rot_gt (a := m - i) (b := m + j) hgt (by omega) rfl hj0,he]
      · intro q hq
        have := E.hid' zs
        simp only [List.mem_cons,List.not_mem_nil,or_false] at hq
        rcases hq with rfl | rfl | rfl | rfl | rfl <;> first | exact ⟨rfl,E.hfv' zs⟩ | exact ⟨by rw [hyl]; rfl,by simp [vid,this]⟩ | exact ⟨rfl,by simp [vid,this]⟩
    · have hz2 : decide ((i : Int) > j) = false := decide_eq_false (by omega)
      have e2 : IntKind.i64.wrap ((j : Int) - i) = ((j - i : Nat) : Int) := by rw [wrap64 (by omega) (by omega)]; omega
      have e3 : IntKind.i64.wrap ((m : Int) + j) = ((m + j : Nat) : Int) := by rw [wrap64 (by omega) (by omega)]; omega
      have e4 : IntKind.i64.wrap (((m + j : Nat) : Int) - i) = ((m + j - i : Nat) : Int) := by rw [wrap64 (by omega) (by omega)]; omega
      simp only [w135L0,hz,hz2,e1,e3,e4,go_sem,Nat.reduceEqDiff,Nat.reduceAdd,Nat.reduceLT,Nat.reduceLeDiff,reduceIte,reduceCtorEq]
      rw [← hyl]
      refine CallK.by (CallV.of_spec (first := []) (cap := []) (s137 E ys hyok (by omega) (m - i) (m + j - i) i (by omega) (by omega))) fun v H' ⟨hv,zs,hH,hm2,he2⟩ => ?_
      subst hv hH
      simp only [e2,go_sem,Nat.reduceEqDiff,Nat.reduceAdd,Nat.reduceLT,Nat.reduceLeDiff,reduceIte,reduceCtorEq]
      refine roundN (E.hokB xs _) (fun _ _ h => h) (E.leB _ _) ⟨(i,j - i,zs),hi0,hi,by dsimp only; omega,by dsimp only; omega,hm.trans (hm2.mono (by omega) (by omega)),fun t => ?_⟩ (by dsimp only; omega) rfl ?_
      · dsimp only
        rw [he2,rot_lt (by omega) (by omega),he]
      · intro q hq
        have := E.hid' zs
        simp only [List.mem_cons,List.not_mem_nil,or_false] at hq
        rcases hq with rfl | rfl | rfl | rfl | rfl <;> first | exact ⟨rfl,E.hfv' zs⟩ | exact ⟨by rw [hyl]; rfl,by simp [vid,this]⟩ | exact ⟨rfl,by simp [vid,this]⟩
theorem rotI_at {j i : Nat} (h : j ≤ i) : rotI j i (i + 1) j = i := by unfold rotI; split <;> (try split) <;> omega
theorem rotI_below {j i t : Nat} (h : t < j) : rotI j i (i + 1) t = t := by unfold rotI; split <;> (try split) <;> omega
set_option maxHeartbeats 2000000 in
theorem s131 (E : SEnv H0 id fv key ok) (xs : List (List Int)) (hx : ∀ x ∈ xs,ok x) (hl : xs.length ≤ 1073741824) (a b : Nat) (h1 : a ≤ b) (h3 : b ≤ xs.length) :
    Abs.Spec Try.prog 131 [.own id 0 xs.length xs.length 4,I a,I b,fv] (Hs H0 id xs) fun v H' => v = .tup [] ∧ ∃ ys,H' = Hs H0 id ys ∧ Moved [] a b xs ys ∧ Asc [] key a b ys := by
  refine Abs.Spec.walk mixed fn131 nn131 t131 q131 nt131 (by simp) ?_
  have hwa : IntKind.i64.wrap ((a : Int) + 1) = ((a + 1 : Nat) : Int) := by rw [wrap64 (by omega) (by omega)]; rfl
  simp only [w131,hwa,go_sem,Nat.reduceEqDiff,Nat.reduceAdd,Nat.reduceLT,Nat.reduceLeDiff,reduceIte,reduceCtorEq]
  refine W_loop (fun q : { q : Nat × List (List Int) // a + 1 ≤ q.1 ∧ (q.1 ≤ b ∨ q.1 = a + 1) ∧ Moved [] a b xs q.2 ∧ Asc [] key a q.1 q.2 } =>
    ([(0,.own id 0 xs.length xs.length 4),(1,I a),(2,I b),(3,fv),(8,I q.1.1)],Hs H0 id q.1.2)) (fun q => b + 1 - q.1.1) ⟨(a + 1,xs),by dsimp only; omega,.inr rfl,.refl,.one (Nat.le_refl _)⟩ (idρ _) (Wk.ok (E.hoks xs) (fun _ _ h => h) (Nat.le_refl _) (by
    intro q hq
    have := E.hid' xs
    simp only [List.mem_cons,List.not_mem_nil,or_false] at hq
    rcases hq with rfl | rfl | rfl | rfl | rfl <;> first | exact ⟨rfl,E.hfv' xs⟩ | exact ⟨rfl,by simp [vid,this]⟩) (fun _ h => by cases h)) ?_
  rintro ⟨⟨i,ys⟩,hai,hib,hm,hasc⟩
  dsimp only at hai hib hm hasc ⊢
  have hyl := hm.len
  by_cases hilt : i < b
  · have hz : decide ((i : Int) < b) = true := decide_eq_true (by omega)
    have hwi : IntKind.i64.wrap ((i : Int) + 1) = ((i + 1 : Nat) : Int) := by rw [wrap64 (by omega) (by omega)]; rfl
    simp only [w131L0,hz,go_sem,Nat.reduceEqDiff,Nat.reduceAdd,Nat.reduceLT,Nat.reduceLeDiff,reduceIte,reduceCtorEq]
    refine W_loop (fun q : { q : Nat × List (List Int) // a ≤ q.1 ∧ q.1 ≤ i ∧ Moved [] a b xs q.2 ∧ (∀ t,q.2.getD t [] = ys.getD (rotI q.1 i (i + 1) t) []) ∧ ∀ c,q.1 ≤ c → c < i → key (ys.getD i []) < key (ys.getD c []) } =>
      ([(0,.own id 0 xs.length xs.length 4),(1,I a),(2,I b),(3,fv),(8,I i),(9,I q.1.1)],Hs H0 id q.1.2)) (fun q => q.1.1) ⟨(i,ys),by dsimp only; omega,Nat.le_refl _,hm,fun t => by rw [rotI_id2],fun c h1 h2 => by dsimp only at h1; omega⟩ (idρ _) (Wk.ok (E.hokB xs ys) (fun _ _ h => h) (E.leB _ _) (by
      intro q hq
      have := E.hid' ys
      simp only [List.mem_cons,List.not_mem_nil,or_false] at hq
      rcases hq with rfl | rfl | rfl | rfl | rfl | rfl <;> first | exact ⟨rfl,E.hfv' ys⟩ | exact ⟨rfl,by simp [vid,this]⟩) (fun _ h => by cases h)) ?_
    rintro ⟨⟨j,zs⟩,haj,hji,hm2,he,hgt⟩
    dsimp only at haj hji hm2 he hgt ⊢
    have hzl := hm2.len
    have hzok := moved_ok hm2 hx
    have hz4 := E.len4 hzok
    have hg := Hs_get (xs := zs) E.hid
    have stop : (j = a ∨ key (ys.getD (j - 1) []) ≤ key (ys.getD i [])) → Asc [] key a (i + 1) zs := fun h => by
      refine Asc.ins2 hasc haj hji (fun c c1 c2 => ?_) hgt he
      rcases h with h | h
      · omega
      · exact Int.le_trans (hasc c (j - 1) c1 (by omega) (by omega)) h
    by_cases hja : a < j
    · have hz2 : decide ((j : Int) > a) = true := decide_eq_true (by omega)
      have hwj : IntKind.i64.wrap ((j : Int) - 1) = ((j - 1 : Nat) : Int) := by rw [wrap64 (by omega) (by omega)]; omega
      have hjz : j < zs.length := by omega
      have hjz' : j - 1 < zs.length := by omega
      have cj := mF_cut' hz4 hjz
      have cj' := mF_cut' hz4 hjz'
      have hml : (mI zs.flatten).length = zs.length * 4 := mF_len hz4
      obtain ⟨p1,p2,p3,p4⟩ := exch hz4 hjz hjz'
      obtain ⟨ma,oa,-⟩ := p4 _ hjz
      obtain ⟨mb,ob,-⟩ := p4 _ hjz'
      have hg1 := Hs_get (H0 := H0) (xs := zs.set j (zs.getD (j - 1) [])) E.hid
      simp only [w131L1,hz2,hwj,hg,cj,cj',hml,go_sem,Nat.reduceEqDiff,Nat.reduceAdd,Nat.reduceLT,Nat.reduceLeDiff,reduceIte,reduceCtorEq]
      repeat (refine ⟨by omega,?_⟩)
      refine CallKD.by (E.cmp zs _ _ (okD hzok hjz) (okD hzok hjz')) fun v H' ⟨hv,hH⟩ => ?_
      subst hv hH
      have e1 : zs.getD j [] = ys.getD i [] := by rw [he,rotI_at hji]
      have e2 : zs.getD (j - 1) [] = ys.getD (j - 1) [] := by rw [he,rotI_below (by omega)]
      by_cases hlt : key (zs.getD j []) - key (zs.getD (j - 1) []) < 0
      · have hz3 : decide (key (zs.getD j []) - key (zs.getD (j - 1) []) < 0) = true := decide_eq_true hlt
        simp only [hz3,hwj,hg,cj,cj',hml,cells_vec,ma,mb,oa,ob,p1,Hs_put,hg1,p3,p2,go_sem,Nat.reduceEqDiff,Nat.reduceAdd,Nat.reduceLT,Nat.reduceLeDiff,reduceIte,reduceCtorEq]
        repeat (refine ⟨by omega,?_⟩)
        refine roundN (E.hokB xs _) (fun _ _ h => h) (E.leB _ _) ⟨(j - 1,swp [] j (j - 1) zs),by dsimp only; omega,by dsimp only; omega,hm2.trans (swp_moved hjz hjz' (by omega) (by omega) (by omega) (by omega)),fun t => by rw [swp_get hjz hjz',he,rotI_down (by omega) hji],fun c c1 c2 => ?_⟩ (by dsimp only; omega) rfl (by simp only [List.mem_cons,List.not_mem_nil,or_false,forall_eq_or_imp,forall_eq]; repeat' (first | exact ⟨rfl,E.hfv' (swp [] j (j - 1) zs)⟩ | exact ⟨rfl,decide_eq_true (E.hid' (swp [] j (j - 1) zs))⟩ | exact ⟨rfl,rfl⟩ | constructor))
        by_cases hc : c = j - 1
        · subst hc; rw [← e1,← e2]; omega
        · exact hgt c (by dsimp only at c1; omega) c2
      · have hz3 : decide (key (zs.getD j []) - key (zs.getD (j - 1) []) < 0) = false := decide_eq_false hlt
        simp only [hz3,w131T2,hwi,go_sem,Nat.reduceEqDiff,Nat.reduceAdd,Nat.reduceLT,Nat.reduceLeDiff,reduceIte,reduceCtorEq]
        exact roundN (E.hokB xs _) (fun _ _ h => h) (E.leB _ _) ⟨(i + 1,zs),by dsimp only; omega,.inl (by dsimp only; omega),hm2,stop (.inr (by rw [← e1,← e2]; omega))⟩ (by dsimp only; omega) rfl (by simp only [List.mem_cons,List.not_mem_nil,or_false,forall_eq_or_imp,forall_eq]; repeat' (first | exact ⟨rfl,E.hfv' zs⟩ | exact ⟨rfl,decide_eq_true (E.hid' zs)⟩ | exact ⟨rfl,rfl⟩ | constructor))
    · have hz2 : decide ((j : Int) > a) = false := decide_eq_false (by omega)
      simp only [w131L1,hz2,w131T2,hwi,go_sem,Nat.reduceEqDiff,Nat.reduceAdd,Nat.reduceLT,Nat.reduceLeDiff,reduceIte,reduceCtorEq]
      exact roundN (E.hokB xs _) (fun _ _ h => h) (E.leB _ _) ⟨(i + 1,zs),by dsimp only; omega,.inl (by dsimp only; omega),hm2,stop (.inl (by omega))⟩ (by dsimp only; omega) rfl (by simp only [List.mem_cons,List.not_mem_nil,or_false,forall_eq_or_imp,forall_eq]; repeat' (first | exact ⟨rfl,E.hfv' zs⟩ | exact ⟨rfl,decide_eq_true (E.hid' zs)⟩ | exact ⟨rfl,rfl⟩ | constructor))
  · have hz : decide ((i : Int) < b) = false := decide_eq_false (by omega)
    simp only [w131L0,hz,go_sem,Nat.reduceEqDiff,Nat.reduceAdd,Nat.reduceLT,Nat.reduceLeDiff,reduceIte,reduceCtorEq]
    exact leafN0 (E.hokB xs _) (fun _ _ h => h) (E.leB _ _) ⟨rfl,ys,rfl,hm,hasc.sub (Nat.le_refl _) (by omega)⟩
theorem half {x : Nat} (h : x < 9223372036854775808) : IntKind.i64.wrap ((IntKind.u64.wrap (x : Int)).fdiv (2 ^ min (Int.toNat 1) 64)) = ((x / 2 : Nat) : Int) := by
  have e1 : IntKind.u64.wrap (x : Int) = x := by simp [IntKind.wrap,IntKind.bits,IntKind.signed]; omega
  have e2 : (2 : Int) ^ min (Int.toNat 1) 64 = 2 := rfl
  rw [e1,e2,Int.fdiv_eq_ediv_of_nonneg _ (by decide),wrap64 (by omega) (by omega)]; omega
section
variable {xs0 xs : List (List Int)}
set_option maxHeartbeats 4000000 in
/-- symMerge,where the first part is one. -/
theorem s132a (E : SEnv H0 id fv key ok) (xs : List (List Int)) (a b : Nat) (hx : ∀ x ∈ xs,ok x) (hl : xs.length ≤ 1073741824) (h2 : a + 1 < b) (h3 : b ≤ xs.length) (hR : Asc [] key (a + 1) b xs) :
    Abs.Spec Try.prog 132 [.own id 0 xs.length xs.length 4,I a,I ((a + 1 : Nat) : Int),I b,fv] (Hs H0 id xs) fun v H' => v = .tup [] ∧ ∃ ys,H' = Hs H0 id ys ∧ Moved [] a b xs ys ∧ Asc [] key a b ys := by
  refine Abs.Spec.walk mixed fn132 nn132 t132 q132 nt132 (by simp) ?_
  have hx4 := E.len4 hx
  have hg := Hs_get (xs := xs) E.hid
  have hml : (mI xs.flatten).length = xs.length * 4 := mF_len hx4
  have w1 : IntKind.i64.wrap (((a + 1 : Nat) : Int) - a) = 1 := by rw [wrap64 (by omega) (by omega)]; omega
  have z1 : ((1 : Int) == 1) = true := rfl
  simp only [w132,w1,z1,go_sem,Nat.reduceEqDiff,Nat.reduceAdd,Nat.reduceLT,Nat.reduceLeDiff,reduceIte,reduceCtorEq]
  refine W_loop (fun q : { q : Nat × Nat // a + 1 ≤ q.1 ∧ q.1 ≤ q.2 ∧ q.2 ≤ b ∧ (∀ c,a + 1 ≤ c → c < q.1 → key (xs.getD c []) < key (xs.getD a [])) ∧ ∀ c,q.2 ≤ c → c < b → key (xs.getD a []) ≤ key (xs.getD c []) } =>
    ([(0,.own id 0 xs.length xs.length 4),(1,I a),(4,fv),(10,I q.1.1),(11,I q.1.2)],Hs H0 id xs)) (fun q => q.1.2 - q.1.1) ⟨(a + 1,b),by dsimp only; omega,by dsimp only; omega,by dsimp only; omega,fun c c1 c2 => by dsimp only at c2; omega,fun c c1 c2 => by dsimp only at c1; omega⟩ (idρ _) (Wk.ok (E.hoks xs) (fun _ _ h => h) (Nat.le_refl _) (by simp only [List.mem_cons,List.not_mem_nil,or_false,forall_eq_or_imp,forall_eq]; repeat' (first | exact ⟨rfl,E.hfv' xs⟩ | exact ⟨rfl,decide_eq_true (E.hid' xs)⟩ | exact ⟨rfl,rfl⟩ | constructor)) (fun _ h => by cases h)) ?_
  rintro ⟨⟨i,j⟩,hi,hij,hj,lo,hi2⟩
  dsimp only at hi hij hj lo hi2 ⊢
  by_cases hlt : i < j
  · have z2 : decide ((i : Int) < j) = true := decide_eq_true (by omega)
    have w3 : IntKind.i64.wrap ((i : Int) + j) = ((i + j : Nat) : Int) := by rw [wrap64 (by omega) (by omega)]; rfl
    have hf := half (x := i + j) (by omega)
    obtain ⟨h,hh⟩ : ∃ h,h = (i + j) / 2 := ⟨_,rfl⟩
    rw [← hh] at hf
    have hhx : h < xs.length := by omega
    have hax : a < xs.length := by omega
    have ch := mF_cut' hx4 hhx
    have ca := mF_cut' hx4 hax
    have wh : IntKind.i64.wrap ((h : Int) + 1) = ((h + 1 : Nat) : Int) := by rw [wrap64 (by omega) (by omega)]; rfl
    simp only [w132L0,z2,w3,hf,hg,hml,ch,ca,go_sem,Nat.reduceEqDiff,Nat.reduceAdd,Nat.reduceLT,Nat.reduceLeDiff,reduceIte,reduceCtorEq]
    refine ⟨by omega,by omega,by omega,by omega,by omega,?_⟩
    refine CallKD.by (E.cmp xs _ _ (okD hx hhx) (okD hx hax)) fun v H' ⟨hv,hH⟩ => ?_
    subst hv hH
    simp only [go_sem,Nat.reduceEqDiff,Nat.reduceAdd,Nat.reduceLT,Nat.reduceLeDiff,reduceIte,reduceCtorEq]
    refine IC.splitP (fun hc => ?_) fun hc => ?_
    · simp only [wh,go_sem,Nat.reduceEqDiff,Nat.reduceAdd,Nat.reduceLT,Nat.reduceLeDiff,reduceIte,reduceCtorEq]
      exact roundN (E.hokB xs _) (fun _ _ h => h) (E.leB _ _) ⟨(h + 1,j),by dsimp only; omega,by dsimp only; omega,hj,fun c c1 c2 => by have := hR c h c1 (by dsimp only at c2; omega) (by omega); omega,hi2⟩ (by dsimp only; omega) rfl (by simp only [List.mem_cons,List.not_mem_nil,or_false,forall_eq_or_imp,forall_eq]; repeat' (first | exact ⟨rfl,E.hfv' xs⟩ | exact ⟨rfl,decide_eq_true (E.hid' xs)⟩ | exact ⟨rfl,rfl⟩ | constructor))
    · simp only [go_sem,Nat.reduceEqDiff,Nat.reduceAdd,Nat.reduceLT,Nat.reduceLeDiff,reduceIte,reduceCtorEq]
      exact roundN (E.hokB xs _) (fun _ _ h => h) (E.leB _ _) ⟨(i,h),hi,by dsimp only; omega,by dsimp only; omega,lo,fun c c1 c2 => by have := hR h c (by omega) (by dsimp only at c1; omega) c2; omega⟩ (by dsimp only; omega) rfl (by simp only [List.mem_cons,List.not_mem_nil,or_false,forall_eq_or_imp,forall_eq]; repeat' (first | exact ⟨rfl,E.hfv' xs⟩ | exact ⟨rfl,decide_eq_true (E.hid' xs)⟩ | exact ⟨rfl,rfl⟩ | constructor))
  · obtain rfl : i = j := by omega
    have z2 : decide ((i : Int) < i) = false := decide_eq_false (by omega)
    simp only [w132L0,z2,w132T1,go_sem,Nat.reduceEqDiff,Nat.reduceAdd,Nat.reduceLT,Nat.reduceLeDiff,reduceIte,reduceCtorEq]
    refine W_loop (fun q : { q : Nat × List (List Int) // a ≤ q.1 ∧ q.1 + 1 ≤ i ∧ Moved [] a b xs q.2 ∧ ∀ t,q.2.getD t [] = xs.getD (rotI a (a + 1) (q.1 + 1) t) [] } =>
      ([(0,.own id 0 xs.length xs.length 4),(10,I i),(13,I q.1.1)],Hs H0 id q.1.2)) (fun q => i - q.1.1) ⟨(a,xs),Nat.le_refl _,hi,.refl,fun t => by rw [rotI_id1]⟩ (idρ _) (Wk.ok (E.hokB xs xs) (fun _ _ h => h) (E.leB _ _) (by simp only [List.mem_cons,List.not_mem_nil,or_false,forall_eq_or_imp,forall_eq]; repeat' (first | exact ⟨rfl,E.hfv' xs⟩ | exact ⟨rfl,decide_eq_true (E.hid' xs)⟩ | exact ⟨rfl,rfl⟩ | constructor)) (fun _ h => by cases h)) ?_
    rintro ⟨⟨k,ys⟩,hk,hki,hm,he⟩
    dsimp only at hk hki hm he ⊢
    have hyl := hm.len
    have hyok := moved_ok hm hx
    have hy4 := E.len4 hyok
    have hgy := Hs_get (xs := ys) E.hid
    have hmy : (mI ys.flatten).length = ys.length * 4 := mF_len hy4
    have wi : IntKind.i64.wrap ((i : Int) - 1) = ((i - 1 : Nat) : Int) := by rw [wrap64 (by omega) (by omega)]; omega
    by_cases hkl : k < i - 1
    · have z3 : decide ((k : Int) < ((i - 1 : Nat) : Int)) = true := decide_eq_true (by omega)
      have wk : IntKind.i64.wrap ((k : Int) + 1) = ((k + 1 : Nat) : Int) := by rw [wrap64 (by omega) (by omega)]; rfl
      have hky : k < ys.length := by omega
      have hky' : k + 1 < ys.length := by omega
      have c1 := mF_cut' hy4 hky
      have c2 := mF_cut' hy4 hky'
      obtain ⟨p1,p2,p3,p4⟩ := exch hy4 hky hky'
      obtain ⟨ma,oa,-⟩ := p4 _ hky
      obtain ⟨mb,ob,-⟩ := p4 _ hky'
      have hg1 := Hs_get (H0 := H0) (xs := ys.set k (ys.getD (k + 1) [])) E.hid
      simp only [w132L2,wi,z3,wk,hgy,hmy,c1,c2,cells_vec,ma,mb,oa,ob,p1,Hs_put,hg1,p3,p2,go_sem,Nat.reduceEqDiff,Nat.reduceAdd,Nat.reduceLT,Nat.reduceLeDiff,reduceIte,reduceCtorEq]
      repeat (refine ⟨by omega,?_⟩)
      refine roundN (E.hokB xs _) (fun _ _ h => h) (E.leB _ _) ⟨(k + 1,swp [] k (k + 1) ys),by dsimp only; omega,by dsimp only; omega,hm.trans (swp_moved hky hky' (by omega) (by omega) (by omega) (by omega)),fun t => by rw [swp_get hky hky',he,rotI_up hk]⟩ (by dsimp only; omega) rfl (by simp only [List.mem_cons,List.not_mem_nil,or_false,forall_eq_or_imp,forall_eq]; repeat' (first | exact ⟨rfl,E.hfv' (swp [] k (k + 1) ys)⟩ | exact ⟨rfl,decide_eq_true (E.hid' (swp [] k (k + 1) ys))⟩ | exact ⟨rfl,rfl⟩ | constructor))
    · have z3 : decide ((k : Int) < ((i - 1 : Nat) : Int)) = false := decide_eq_false (by omega)
      simp only [w132L2,wi,z3,go_sem,Nat.reduceEqDiff,Nat.reduceAdd,Nat.reduceLT,Nat.reduceLeDiff,reduceIte,reduceCtorEq]
      refine leafN0 (E.hokB xs _) (fun _ _ h => h) (E.leB _ _) ⟨rfl,ys,rfl,hm,hR.ins1 hi hj lo hi2 fun t => ?_⟩
      rw [he,show k + 1 = i by omega]
set_option maxHeartbeats 4000000 in
/-- symMerge,where the second part is one. -/
theorem s132b (E : SEnv H0 id fv key ok) (xs : List (List Int)) (a m : Nat) (hx : ∀ x ∈ xs,ok x) (hl : xs.length ≤ 1073741824) (h1 : a + 1 < m) (h3 : m + 1 ≤ xs.length) (hL : Asc [] key a m xs) :
    Abs.Spec Try.prog 132 [.own id 0 xs.length xs.length 4,I a,I m,I ((m + 1 : Nat) : Int),fv] (Hs H0 id xs) fun v H' => v = .tup [] ∧ ∃ ys,H' = Hs H0 id ys ∧ Moved [] a (m + 1) xs ys ∧ Asc [] key a (m + 1) ys := by
  refine Abs.Spec.walk mixed fn132 nn132 t132 q132 nt132 (by simp) ?_
  have hx4 := E.len4 hx
  have hg := Hs_get (xs := xs) E.hid
  have hml : (mI xs.flatten).length = xs.length * 4 := mF_len hx4
  have w1 : IntKind.i64.wrap ((m : Int) - a) = ((m - a : Nat) : Int) := by rw [wrap64 (by omega) (by omega)]; omega
  have z1 : (((m - a : Nat) : Int) == 1) = false := by rw [beq_eq_false_iff_ne]; omega
  have w2 : IntKind.i64.wrap (((m + 1 : Nat) : Int) - m) = 1 := by rw [wrap64 (by omega) (by omega)]; omega
  have z0 : ((1 : Int) == 1) = true := rfl
  simp only [w132,w1,z1,w132T3,w2,z0,go_sem,Nat.reduceEqDiff,Nat.reduceAdd,Nat.reduceLT,Nat.reduceLeDiff,reduceIte,reduceCtorEq]
  refine W_loop (fun q : { q : Nat × Nat // a ≤ q.1 ∧ q.1 ≤ q.2 ∧ q.2 ≤ m ∧ (∀ c,a ≤ c → c < q.1 → key (xs.getD c []) ≤ key (xs.getD m [])) ∧ ∀ c,q.2 ≤ c → c < m → key (xs.getD m []) < key (xs.getD c []) } =>
    ([(0,.own id 0 xs.length xs.length 4),(2,I m),(4,fv),(14,I q.1.1),(15,I q.1.2)],Hs H0 id xs)) (fun q => q.1.2 - q.1.1) ⟨(a,m),by dsimp only; omega,by dsimp only; omega,by dsimp only; omega,fun c c1 c2 => by dsimp only at c2; omega,fun c c1 c2 => by dsimp only at c1; omega⟩ (idρ _) (Wk.ok (E.hoks xs) (fun _ _ h => h) (Nat.le_refl _) (by simp only [List.mem_cons,List.not_mem_nil,or_false,forall_eq_or_imp,forall_eq]; repeat' (first | exact ⟨rfl,E.hfv' xs⟩ | exact ⟨rfl,decide_eq_true (E.hid' xs)⟩ | exact ⟨rfl,rfl⟩ | constructor)) (fun _ h => by cases h)) ?_
  rintro ⟨⟨i,j⟩,hi,hij,hj,lo,hi2⟩
  dsimp only at hi hij hj lo hi2 ⊢
  by_cases hlt : i < j
  · have z2 : decide ((i : Int) < j) = true := decide_eq_true (by omega)
    have w3 : IntKind.i64.wrap ((i : Int) + j) = ((i + j : Nat) : Int) := by rw [wrap64 (by omega) (by omega)]; rfl
    have hf := half (x := i + j) (by omega)
    obtain ⟨h,hh⟩ : ∃ h,h = (i + j) / 2 := ⟨_,rfl⟩
    rw [← hh] at hf
    have hhx : h < xs.length := by omega
    have hmx : m < xs.length := by omega
    have ch := mF_cut' hx4 hhx
    have cm := mF_cut' hx4 hmx
    have wh : IntKind.i64.wrap ((h : Int) + 1) = ((h + 1 : Nat) : Int) := by rw [wrap64 (by omega) (by omega)]; rfl
    simp only [w132L4,z2,w3,hf,hg,hml,ch,cm,go_sem,Nat.reduceEqDiff,Nat.reduceAdd,Nat.reduceLT,Nat.reduceLeDiff,reduceIte,reduceCtorEq]
    refine ⟨by omega,by omega,by omega,by omega,by omega,?_⟩
    refine CallKD.by (E.cmp xs _ _ (okD hx hmx) (okD hx hhx)) fun v H' ⟨hv,hH⟩ => ?_
    subst hv hH
    by_cases hc : key (xs.getD m []) - key (xs.getD h []) < 0
    · have z3 : decide (key (xs.getD m []) - key (xs.getD h []) < 0) = true := decide_eq_true hc
      simp only [z3,go_sem,Nat.reduceEqDiff,Nat.reduceAdd,Nat.reduceLT,Nat.reduceLeDiff,reduceIte,reduceCtorEq]
      exact roundN (E.hokB xs _) (fun _ _ h => h) (E.leB _ _) ⟨(i,h),hi,by dsimp only; omega,by dsimp only; omega,lo,fun c c1 c2 => by have := hL h c (by omega) (by dsimp only at c1; omega) c2; omega⟩ (by dsimp only; omega) rfl (by simp only [List.mem_cons,List.not_mem_nil,or_false,forall_eq_or_imp,forall_eq]; repeat' (first | exact ⟨rfl,E.hfv' xs⟩ | exact ⟨rfl,decide_eq_true (E.hid' xs)⟩ | exact ⟨rfl,rfl⟩ | constructor))
    · have z3 : decide (key (xs.getD m []) - key (xs.getD h []) < 0) = false := decide_eq_false hc
      simp only [z3,wh,go_sem,Nat.reduceEqDiff,Nat.reduceAdd,Nat.reduceLT,Nat.reduceLeDiff,reduceIte,reduceCtorEq]
      exact roundN (E.hokB xs _) (fun _ _ h => h) (E.leB _ _) ⟨(h + 1,j),by dsimp only; omega,by dsimp only; omega,hj,fun c c1 c2 => by have := hL c h c1 (by dsimp only at c2; omega) (by omega); omega,hi2⟩ (by dsimp only; omega) rfl (by simp only [List.mem_cons,List.not_mem_nil,or_false,forall_eq_or_imp,forall_eq]; repeat' (first | exact ⟨rfl,E.hfv' xs⟩ | exact ⟨rfl,decide_eq_true (E.hid' xs)⟩ | exact ⟨rfl,rfl⟩ | constructor))
  · obtain rfl : i = j := by omega
    have z2 : decide ((i : Int) < i) = false := decide_eq_false (by omega)
    simp only [w132L4,z2,w132T5,go_sem,Nat.reduceEqDiff,Nat.reduceAdd,Nat.reduceLT,Nat.reduceLeDiff,reduceIte,reduceCtorEq]
    refine W_loop (fun q : { q : Nat × List (List Int) // i ≤ q.1 ∧ q.1 ≤ m ∧ Moved [] a (m + 1) xs q.2 ∧ ∀ t,q.2.getD t [] = xs.getD (rotI q.1 m (m + 1) t) [] } =>
      ([(0,.own id 0 xs.length xs.length 4),(14,I i),(17,I q.1.1)],Hs H0 id q.1.2)) (fun q => q.1.1) ⟨(m,xs),hj,Nat.le_refl _,.refl,fun t => by rw [rotI_id2]⟩ (idρ _) (Wk.ok (E.hokB xs xs) (fun _ _ h => h) (E.leB _ _) (by simp only [List.mem_cons,List.not_mem_nil,or_false,forall_eq_or_imp,forall_eq]; repeat' (first | exact ⟨rfl,E.hfv' xs⟩ | exact ⟨rfl,decide_eq_true (E.hid' xs)⟩ | exact ⟨rfl,rfl⟩ | constructor)) (fun _ h => by cases h)) ?_
    rintro ⟨⟨k,ys⟩,hk,hkm,hm,he⟩
    dsimp only at hk hkm hm he ⊢
    have hyl := hm.len
    have hyok := moved_ok hm hx
    have hy4 := E.len4 hyok
    have hgy := Hs_get (xs := ys) E.hid
    have hmy : (mI ys.flatten).length = ys.length * 4 := mF_len hy4
    by_cases hkl : i < k
    · have z3 : decide ((k : Int) > (i : Int)) = true := decide_eq_true (by omega)
      have wk : IntKind.i64.wrap ((k : Int) - 1) = ((k - 1 : Nat) : Int) := by rw [wrap64 (by omega) (by omega)]; omega
      have hky : k < ys.length := by omega
      have hky' : k - 1 < ys.length := by omega
      have c1 := mF_cut' hy4 hky
      have c2 := mF_cut' hy4 hky'
      obtain ⟨p1,p2,p3,p4⟩ := exch hy4 hky hky'
      obtain ⟨ma,oa,-⟩ := p4 _ hky
      obtain ⟨mb,ob,-⟩ := p4 _ hky'
      have hg1 := Hs_get (H0 := H0) (xs := ys.set k (ys.getD (k - 1) [])) E.hid
      simp only [w132L6,z3,wk,hgy,hmy,c1,c2,cells_vec,ma,mb,oa,ob,p1,Hs_put,hg1,p3,p2,go_sem,Nat.reduceEqDiff,Nat.reduceAdd,Nat.reduceLT,Nat.reduceLeDiff,reduceIte,reduceCtorEq]
      repeat (refine ⟨by omega,?_⟩)
      refine roundN (E.hokB xs _) (fun _ _ h => h) (E.leB _ _) ⟨(k - 1,swp [] k (k - 1) ys),by dsimp only; omega,by dsimp only; omega,hm.trans (swp_moved hky hky' (by omega) (by omega) (by omega) (by omega)),fun t => by rw [swp_get hky hky',he,rotI_down (by omega) hkm]⟩ (by dsimp only; omega) rfl (by simp only [List.mem_cons,List.not_mem_nil,or_false,forall_eq_or_imp,forall_eq]; repeat' (first | exact ⟨rfl,E.hfv' (swp [] k (k - 1) ys)⟩ | exact ⟨rfl,decide_eq_true (E.hid' (swp [] k (k - 1) ys))⟩ | exact ⟨rfl,rfl⟩ | constructor))
    · have z3 : decide ((k : Int) > (i : Int)) = false := decide_eq_false (by omega)
      simp only [w132L6,z3,go_sem,Nat.reduceEqDiff,Nat.reduceAdd,Nat.reduceLT,Nat.reduceLeDiff,reduceIte,reduceCtorEq]
      refine leafN0 (E.hokB xs _) (fun _ _ h => h) (E.leB _ _) ⟨rfl,ys,rfl,hm,hL.ins2 hi hj lo hi2 fun t => ?_⟩
      rw [he,show k = i by omega]
def c145X3 : ICode :=
  (.seq (.ops [⟨(some 206),(.mv (.t 18)),none⟩,
    ⟨(some 207),(.mv (.t 24)),none⟩,
    ⟨(some 208),(.bin .lss (.t 206) (.t 207)),none⟩,
    ⟨(some 209),(.mv (.t 208)),none⟩,
    ⟨(some 210),(.mv (.t 24)),(some (209,true))⟩,
    ⟨(some 211),(.mv (.t 3)),(some (209,true))⟩,
    ⟨(some 212),(.bin .lss (.t 210) (.t 211)),(some (209,true))⟩,
    ⟨(some 213),(.pick (.t 209) (.t 212) (.k (B false))),none⟩])
  (.cond (.t 213)
    (.ops [⟨(some 214),(.mv (.t 0)),none⟩,
      ⟨(some 215),(.mv (.t 18)),none⟩,
      ⟨(some 216),(.mv (.t 24)),none⟩,
      ⟨(some 217),(.mv (.t 3)),none⟩,
      ⟨(some 218),(.mv (.t 4)),none⟩,
      ⟨(some 219),(.call (.k (.fn (.func 132) [] [])) [(.t 214),(.t 215),(.t 216),(.t 217),(.t 218)]),none⟩])
    .skip))
def c145X2 : ICode :=
  (.seq (.seq (.ops [⟨(some 192),(.mv (.t 1)),none⟩,
    ⟨(some 193),(.mv (.t 20)),none⟩,
    ⟨(some 194),(.bin .lss (.t 192) (.t 193)),none⟩,
    ⟨(some 195),(.mv (.t 194)),none⟩,
    ⟨(some 196),(.mv (.t 20)),(some (195,true))⟩,
    ⟨(some 197),(.mv (.t 18)),(some (195,true))⟩,
    ⟨(some 198),(.bin .lss (.t 196) (.t 197)),(some (195,true))⟩,
    ⟨(some 199),(.pick (.t 195) (.t 198) (.k (B false))),none⟩])
  (.cond (.t 199)
    (.ops [⟨(some 200),(.mv (.t 0)),none⟩,
      ⟨(some 201),(.mv (.t 1)),none⟩,
      ⟨(some 202),(.mv (.t 20)),none⟩,
      ⟨(some 203),(.mv (.t 18)),none⟩,
      ⟨(some 204),(.mv (.t 4)),none⟩,
      ⟨(some 205),(.call (.k (.fn (.func 132) [] [])) [(.t 200),(.t 201),(.t 202),(.t 203),(.t 204)]),none⟩])
    .skip))
  c145X3)
theorem x145X3 {x : Cx} {Q : QT} {ks : List Kont} {fr : Fr} {H : AHeap} {ms : List Nat} : W x Q c145X3 ks fr H ms = W x Q (.seq (.ops [⟨(some 206),(.mv (.t 18)),none⟩,
    ⟨(some 207),(.mv (.t 24)),none⟩,
    ⟨(some 208),(.bin .lss (.t 206) (.t 207)),none⟩,
    ⟨(some 209),(.mv (.t 208)),none⟩,
    ⟨(some 210),(.mv (.t 24)),(some (209,true))⟩,
    ⟨(some 211),(.mv (.t 3)),(some (209,true))⟩,
    ⟨(some 212),(.bin .lss (.t 210) (.t 211)),(some (209,true))⟩,
    ⟨(some 213),(.pick (.t 209) (.t 212) (.k (B false))),none⟩])
  (.cond (.t 213)
    (.ops [⟨(some 214),(.mv (.t 0)),none⟩,
      ⟨(some 215),(.mv (.t 18)),none⟩,
      ⟨(some 216),(.mv (.t 24)),none⟩,
      ⟨(some 217),(.mv (.t 3)),none⟩,
      ⟨(some 218),(.mv (.t 4)),none⟩,
      ⟨(some 219),(.call (.k (.fn (.func 132) [] [])) [(.t 214),(.t 215),(.t 216),(.t 217),(.t 218)]),none⟩])
    .skip)) ks fr H ms := rfl
theorem x145X2 {x : Cx} {Q : QT} {ks : List Kont} {fr : Fr} {H : AHeap} {ms : List Nat} : W x Q c145X2 ks fr H ms = W x Q (.seq (.seq (.ops [⟨(some 192),(.mv (.t 1)),none⟩,
    ⟨(some 193),(.mv (.t 20)),none⟩,
    ⟨(some 194),(.bin .lss (.t 192) (.t 193)),none⟩,
    ⟨(some 195),(.mv (.t 194)),none⟩,
    ⟨(some 196),(.mv (.t 20)),(some (195,true))⟩,
    ⟨(some 197),(.mv (.t 18)),(some (195,true))⟩,
    ⟨(some 198),(.bin .lss (.t 196) (.t 197)),(some (195,true))⟩,
    ⟨(some 199),(.pick (.t 195) (.t 198) (.k (B false))),none⟩])
  (.cond (.t 199)
    (.ops [⟨(some 200),(.mv (.t 0)),none⟩,
      ⟨(some 201),(.mv (.t 1)),none⟩,
      ⟨(some 202),(.mv (.t 20)),none⟩,
      ⟨(some 203),(.mv (.t 18)),none⟩,
      ⟨(some 204),(.mv (.t 4)),none⟩,
      ⟨(some 205),(.call (.k (.fn (.func 132) [] [])) [(.t 200),(.t 201),(.t 202),(.t 203),(.t 204)]),none⟩])
    .skip))
  c145X3) ks fr H ms := rfl
theorem x145T9 {x : Cx} {Q : QT} {ks : List Kont} {fr : Fr} {H : AHeap} {ms : List Nat} : W x Q c132T9 ks fr H ms = W x Q (.keep [0,1,2,3,4,18,19,20] (.seq (.ops [⟨(some 175),(.mv (.t 19)),none⟩,
    ⟨(some 176),(.mv (.t 20)),none⟩,
    ⟨(some 177),(.bin .sub (.t 175) (.t 176)),none⟩,
    ⟨(some 24),(.mv (.t 177)),none⟩])
  (.seq (.seq (.ops [⟨(some 178),(.mv (.t 20)),none⟩,
    ⟨(some 179),(.mv (.t 2)),none⟩,
    ⟨(some 180),(.bin .lss (.t 178) (.t 179)),none⟩,
    ⟨(some 181),(.mv (.t 180)),none⟩,
    ⟨(some 182),(.mv (.t 2)),(some (181,true))⟩,
    ⟨(some 183),(.mv (.t 24)),(some (181,true))⟩,
    ⟨(some 184),(.bin .lss (.t 182) (.t 183)),(some (181,true))⟩,
    ⟨(some 185),(.pick (.t 181) (.t 184) (.k (B false))),none⟩])
  (.cond (.t 185)
    (.ops [⟨(some 186),(.mv (.t 0)),none⟩,
      ⟨(some 187),(.mv (.t 20)),none⟩,
      ⟨(some 188),(.mv (.t 2)),none⟩,
      ⟨(some 189),(.mv (.t 24)),none⟩,
      ⟨(some 190),(.mv (.t 4)),none⟩,
      ⟨(some 191),(.call (.k (.fn (.func 135) [] [])) [(.t 186),(.t 187),(.t 188),(.t 189),(.t 190)]),none⟩])
    .skip))
  c145X2))) ks fr H ms := rfl
set_option maxHeartbeats 8000000 in
/-- symMerge. -/
theorem s132 (E : SEnv H0 id fv key ok) : ∀ (f : Nat) (xs : List (List Int)) (a m b : Nat),b - a ≤ f → (∀ x ∈ xs,ok x) → xs.length ≤ 1073741824 → a < m → m < b → b ≤ xs.length → Asc [] key a m xs → Asc [] key m b xs →
    Abs.Spec Try.prog 132 [.own id 0 xs.length xs.length 4,I a,I m,I b,fv] (Hs H0 id xs) fun v H' => v = .tup [] ∧ ∃ ys,H' = Hs H0 id ys ∧ Moved [] a b xs ys ∧ Asc [] key a b ys
  | 0,xs,a,m,b,hf,hx,hl,h1,h2,h3,hL,hR => by omega
  | f + 1,xs,a,m,b,hf,hx,hl,h1,h2,h3,hL,hR => by
    by_cases hm1 : m = a + 1
    · subst hm1; exact s132a E xs a b hx hl h2 h3 hR
    by_cases hm2 : b = m + 1
    · subst hm2; exact s132b E xs a m hx hl (by omega) h3 hL
    refine Abs.Spec.walk mixed fn132 nn132 t132 q132 nt132 (by simp) ?_
    have hx4 := E.len4 hx
    have hg := Hs_get (xs := xs) E.hid
    have hml : (mI xs.flatten).length = xs.length * 4 := mF_len hx4
    have w1 : IntKind.i64.wrap ((m : Int) - a) = ((m - a : Nat) : Int) := by rw [wrap64 (by omega) (by omega)]; omega
    have z1 : (((m - a : Nat) : Int) == 1) = false := by rw [beq_eq_false_iff_ne]; omega
    have w2 : IntKind.i64.wrap ((b : Int) - m) = ((b - m : Nat) : Int) := by rw [wrap64 (by omega) (by omega)]; omega
    have z2 : (((b - m : Nat) : Int) == 1) = false := by rw [beq_eq_false_iff_ne]; omega
    have w3 : IntKind.i64.wrap ((a : Int) + b) = ((a + b : Nat) : Int) := by rw [wrap64 (by omega) (by omega)]; rfl
    have hf1 := half (x := a + b) (by omega)
    obtain ⟨k1,k2,k3,k4,k5⟩ := s0_le h1 h2
    obtain ⟨mid,hmid⟩ : ∃ mid,mid = (a + b) / 2 := ⟨_,rfl⟩
    have w4 : IntKind.i64.wrap ((mid : Int) + m) = ((mid + m : Nat) : Int) := by rw [wrap64 (by omega) (by omega)]; rfl
    have w5 : IntKind.i64.wrap (((mid + m : Nat) : Int) - 1) = ((mid + m - 1 : Nat) : Int) := by rw [wrap64 (by omega) (by omega)]; omega
    rw [← hmid] at hf1
    -- the search,from wherever it begins
    have main : ∀ {fr : Fr},fr.get 0 = .own id 0 xs.length xs.length 4 → fr.get 1 = I a → fr.get 2 = I m → fr.get 3 = I b → fr.get 4 = fv → fr.get 18 = I mid → fr.get 19 = I ((mid + m : Nat) : Int) → fr.get 20 = I (s0 a m b) → fr.get 21 = I (r0 a m b) → fr.get 22 = I ((mid + m - 1 : Nat) : Int) →
        W ⟨Try.prog,(Hs H0 id xs).length,220,true⟩ (retA (Hs H0 id xs).length r132 fun v H' => v = .tup [] ∧ ∃ ys,H' = Hs H0 id ys ∧ Moved [] a b xs ys ∧ Asc [] key a b ys) (.loop c132L8) [.block 8,.seq c132T9] fr (Hs H0 id xs) [] := by
      intro fr g0 g1 g2 g3 g4 g18 g19 g20 g21 g22
      refine W_loop (fun q : { q : Nat × Nat // s0 a m b ≤ q.1 ∧ q.1 ≤ q.2 ∧ q.2 ≤ r0 a m b ∧ (∀ c,s0 a m b ≤ c → c < q.1 → key (xs.getD c []) ≤ key (xs.getD (mid + m - 1 - c) [])) ∧ ∀ c,q.2 ≤ c → c < r0 a m b → key (xs.getD (mid + m - 1 - c) []) < key (xs.getD c []) } =>
        ([(0,.own id 0 xs.length xs.length 4),(1,I a),(2,I m),(3,I b),(4,fv),(18,I mid),(19,I ((mid + m : Nat) : Int)),(20,I q.1.1),(21,I q.1.2),(22,I ((mid + m - 1 : Nat) : Int))],Hs H0 id xs)) (fun q => q.1.2 - q.1.1)
        ⟨(s0 a m b,r0 a m b),Nat.le_refl _,k2,Nat.le_refl _,fun c c1 c2 => by dsimp only at c2; omega,fun c c1 c2 => by dsimp only at c1; omega⟩ (idρ _) (Wk.ok (E.hoks xs) (fun _ _ h => h) (Nat.le_refl _) (by
          simp only [List.mem_cons,List.not_mem_nil,or_false,forall_eq_or_imp,forall_eq]
          exact ⟨⟨g0,decide_eq_true (E.hid' xs)⟩,⟨g1,rfl⟩,⟨g2,rfl⟩,⟨g3,rfl⟩,⟨g4,E.hfv' xs⟩,⟨g18,rfl⟩,⟨g19,rfl⟩,⟨g20,rfl⟩,⟨g21,rfl⟩,⟨g22,rfl⟩⟩) (fun _ h => by cases h)) ?_
      rintro ⟨⟨st,r⟩,hst,hsr,hr,lo,hi⟩
      dsimp only at hst hsr hr lo hi ⊢
      by_cases hlt : st < r
      · have z3 : decide ((st : Int) < r) = true := decide_eq_true (by omega)
        have w6 : IntKind.i64.wrap ((st : Int) + r) = ((st + r : Nat) : Int) := by rw [wrap64 (by omega) (by omega)]; rfl
        have hf2 := half (x := st + r) (by omega)
        obtain ⟨c,hc⟩ : ∃ c,c = (st + r) / 2 := ⟨_,rfl⟩
        rw [← hc] at hf2
        have w7 : IntKind.i64.wrap (((mid + m - 1 : Nat) : Int) - c) = ((mid + m - 1 - c : Nat) : Int) := by rw [wrap64 (by omega) (by omega)]; omega
        have hcx : c < xs.length := by omega
        have hpx : mid + m - 1 - c < xs.length := by omega
        have cc := mF_cut' hx4 hcx
        have cp := mF_cut' hx4 hpx
        have wc : IntKind.i64.wrap ((c : Int) + 1) = ((c + 1 : Nat) : Int) := by rw [wrap64 (by omega) (by omega)]; rfl
        simp only [w132L8,z3,w6,hf2,w7,hg,hml,cc,cp,go_sem,Nat.reduceEqDiff,Nat.reduceAdd,Nat.reduceLT,Nat.reduceLeDiff,reduceIte,reduceCtorEq]
        refine ⟨by omega,by omega,by omega,by omega,by omega,?_⟩
        refine CallKD.by (E.cmp xs _ _ (okD hx hpx) (okD hx hcx)) fun v H' ⟨hv,hH⟩ => ?_
        subst hv hH
        by_cases hk : key (xs.getD (mid + m - 1 - c) []) - key (xs.getD c []) < 0
        · have z4 : decide (key (xs.getD (mid + m - 1 - c) []) - key (xs.getD c []) < 0) = true := decide_eq_true hk
          simp only [z4,go_sem,Nat.reduceEqDiff,Nat.reduceAdd,Nat.reduceLT,Nat.reduceLeDiff,reduceIte,reduceCtorEq]
          refine roundN (E.hokB xs _) (fun _ _ h => h) (E.leB _ _) ⟨(st,c),hst,by dsimp only; omega,by dsimp only; omega,lo,fun e e1 e2 => ?_⟩ (by dsimp only; omega) rfl (by simp only [List.mem_cons,List.not_mem_nil,or_false,forall_eq_or_imp,forall_eq]; repeat' (first | exact ⟨rfl,E.hfv' xs⟩ | exact ⟨rfl,decide_eq_true (E.hid' xs)⟩ | exact ⟨rfl,rfl⟩ | constructor))
          have := search_mono h1 h2 hL hR (c := c) (e := e) (by omega) (by dsimp only at e1; omega) e2
          rw [← hmid] at this
          omega
        · have z4 : decide (key (xs.getD (mid + m - 1 - c) []) - key (xs.getD c []) < 0) = false := decide_eq_false hk
          simp only [z4,wc,go_sem,Nat.reduceEqDiff,Nat.reduceAdd,Nat.reduceLT,Nat.reduceLeDiff,reduceIte,reduceCtorEq]
          refine roundN (E.hokB xs _) (fun _ _ h => h) (E.leB _ _) ⟨(c + 1,r),by dsimp only; omega,by dsimp only; omega,hr,fun e e1 e2 => ?_,hi⟩ (by dsimp only; omega) rfl (by simp only [List.mem_cons,List.not_mem_nil,or_false,forall_eq_or_imp,forall_eq]; repeat' (first | exact ⟨rfl,E.hfv' xs⟩ | exact ⟨rfl,decide_eq_true (E.hid' xs)⟩ | exact ⟨rfl,rfl⟩ | constructor))
          have := search_mono h1 h2 hL hR (c := e) (e := c) e1 (by dsimp only at e2; omega) (by omega)
          rw [← hmid] at this
          omega
      · obtain rfl : st = r := by omega
        have z3 : decide ((st : Int) < st) = false := decide_eq_false (by omega)
        have w6 : IntKind.i64.wrap (((mid + m : Nat) : Int) - st) = ((mid + m - st : Nat) : Int) := by rw [wrap64 (by omega) (by omega)]; omega
        obtain ⟨en,hen⟩ : ∃ en,en = mid + m - st := ⟨_,rfl⟩
        rw [← hen] at w6
        rw [hmid] at lo hi
        have parts := fun ys (he : ∀ t,ys.getD t [] = xs.getD (rotI st m en t) []) => merge_parts (ys := ys) h1 h2 hL hR hst hr (by rw [hen,hmid]) lo hi he
        rw [← hmid] at parts
        obtain ⟨j1,j2,j3,j4,j5,j6⟩ : a ≤ st ∧ st ≤ m ∧ st ≤ mid ∧ m ≤ en ∧ mid ≤ en ∧ en ≤ b := by omega
        obtain ⟨Q,hQ⟩ : ∃ Q : QT,Q = retA (Hs H0 id xs).length r132 fun v H' => v = .tup [] ∧ ∃ ys,H' = Hs H0 id ys ∧ Moved [] a b xs ys ∧ Asc [] key a b ys := ⟨_,rfl⟩
        have fin : ∀ (us : List (List Int)) {fr : Fr},Moved [] a b xs us → Asc [] key a b us → Q .norm fr (Hs H0 id us) [] := fun us fr hm ha => by
          rw [hQ]; exact leafN0 (E.hokB xs _) (fun _ _ h => h) (E.leB _ _) ⟨rfl,us,rfl,hm,ha⟩
        have st3 : ∀ (ys zs : List (List Int)) {fr : Fr},fr.get 0 = .own id 0 xs.length xs.length 4 → fr.get 3 = I b → fr.get 4 = fv → fr.get 18 = I mid → fr.get 24 = I en → (∀ s t,a ≤ s → s < mid → mid ≤ t → t < b → key (ys.getD s []) ≤ key (ys.getD t [])) → Moved [] a b xs zs → Moved [] a mid ys zs → Asc [] key a mid zs → Asc [] key mid en zs → Asc [] key en b zs →
            W ⟨Try.prog,(Hs H0 id xs).length,220,true⟩ Q c145X3 [] fr (Hs H0 id zs) [] := by
          intro ys zs fr g0 g3 g4 g18 g24 hc hm hmy ha1 ha2 ha3
          have hzl := hm.len
          by_cases d1 : mid < en
          · have z6 : decide ((mid : Int) < en) = true := decide_eq_true (by omega)
            by_cases d2 : en < b
            · have z7 : decide ((en : Int) < b) = true := decide_eq_true (by omega)
              simp only [x145X3,g0,g3,g4,g18,g24,z6,z7,go_sem,Nat.reduceEqDiff,Nat.reduceAdd,Nat.reduceLT,Nat.reduceLeDiff,reduceIte,reduceCtorEq]
              rw [← hzl]
              refine CallK.by (CallV.of_spec (first := []) (cap := []) (s132 E f zs mid en b (by omega) (moved_ok hm hx) (by omega) d1 d2 (by omega) ha2 ha3)) fun v H' ⟨hv,us,hH,hm2,ha4⟩ => ?_
              subst hv hH
              simp only [go_sem,Nat.reduceEqDiff,Nat.reduceAdd,Nat.reduceLT,Nat.reduceLeDiff,reduceIte,reduceCtorEq]
              exact fin us (hm.trans (hm2.mono (by omega) (by omega))) (merge_join (by omega) (by omega) hc hmy ha1 hm2 ha4)
            · have z7 : decide ((en : Int) < b) = false := decide_eq_false (by omega)
              obtain rfl : en = b := by omega
              simp only [x145X3,g0,g3,g4,g18,g24,z6,z7,go_sem,Nat.reduceEqDiff,Nat.reduceAdd,Nat.reduceLT,Nat.reduceLeDiff,reduceIte,reduceCtorEq]
              exact fin zs hm (merge_join (by omega) (by omega) hc hmy ha1 .refl ha2)
          · have z6 : decide ((mid : Int) < en) = false := decide_eq_false (by omega)
            have hme : mid = en := by omega
            simp only [x145X3,g0,g3,g4,g18,g24,z6,go_sem,Nat.reduceEqDiff,Nat.reduceAdd,Nat.reduceLT,Nat.reduceLeDiff,reduceIte,reduceCtorEq]
            exact fin zs hm (merge_join (by omega) (by omega) hc hmy ha1 .refl (by rw [hme]; exact ha3))
        have st2 : ∀ (ys : List (List Int)) {fr : Fr},fr.get 0 = .own id 0 xs.length xs.length 4 → fr.get 1 = I a → fr.get 3 = I b → fr.get 4 = fv → fr.get 18 = I mid → fr.get 20 = I st → fr.get 24 = I en → Moved [] a b xs ys → (∀ t,ys.getD t [] = xs.getD (rotI st m en t) []) →
            W ⟨Try.prog,(Hs H0 id xs).length,220,true⟩ Q c145X2 [] fr (Hs H0 id ys) [] := by
          intro ys fr g0 g1 g3 g4 g18 g20 g24 hm he
          obtain ⟨-,-,-,-,-,-,q1,q2,q3,q4,q5⟩ := parts ys he
          have hyl := hm.len
          by_cases d1 : a < st
          · have z6 : decide ((a : Int) < st) = true := decide_eq_true (by omega)
            by_cases d2 : st < mid
            · have z7 : decide ((st : Int) < mid) = true := decide_eq_true (by omega)
              simp only [x145X2,g0,g1,g3,g4,g18,g20,g24,z6,z7,go_sem,Nat.reduceEqDiff,Nat.reduceAdd,Nat.reduceLT,Nat.reduceLeDiff,reduceIte,reduceCtorEq]
              rw [← hyl]
              refine CallK.by (CallV.of_spec (first := []) (cap := []) (s132 E f ys a st mid (by omega) (moved_ok hm hx) (by omega) d1 d2 (by omega) q1 q2)) fun v H' ⟨hv,zs,hH,hm2,ha4⟩ => ?_
              subst hv hH
              simp only [go_sem,Nat.reduceEqDiff,Nat.reduceAdd,Nat.reduceLT,Nat.reduceLeDiff,reduceIte,reduceCtorEq]
              exact st3 ys zs (by rw [hyl]; simp only [Fr.put,Fr.get]; simpa using g0) (by simp only [Fr.put,Fr.get]; simpa using g3) (by simp only [Fr.put,Fr.get]; simpa using g4) (by simp only [Fr.put,Fr.get]; simpa using g18) (by simp only [Fr.put,Fr.get]; simpa using g24) q5 (hm.trans (hm2.mono (by omega) (by omega))) hm2 ha4 (q3.out hm2 (.inr (Nat.le_refl _))) (q4.out hm2 (.inr (by omega)))
            · have z7 : decide ((st : Int) < mid) = false := decide_eq_false (by omega)
              have hsm : st = mid := by omega
              simp only [x145X2,g0,g1,g3,g4,g18,g20,g24,z6,z7,go_sem,Nat.reduceEqDiff,Nat.reduceAdd,Nat.reduceLT,Nat.reduceLeDiff,reduceIte,reduceCtorEq]
              exact st3 ys ys (by simp only [Fr.put,Fr.get]; simpa using g0) (by simp only [Fr.put,Fr.get]; simpa using g3) (by simp only [Fr.put,Fr.get]; simpa using g4) (by simp only [Fr.put,Fr.get]; simpa using g18) (by simp only [Fr.put,Fr.get]; simpa using g24) q5 hm .refl (by rw [← hsm]; exact q1) q3 q4
          · have z6 : decide ((a : Int) < st) = false := decide_eq_false (by omega)
            have hsa : st = a := by omega
            simp only [x145X2,g0,g1,g3,g4,g18,g20,g24,z6,go_sem,Nat.reduceEqDiff,Nat.reduceAdd,Nat.reduceLT,Nat.reduceLeDiff,reduceIte,reduceCtorEq]
            exact st3 ys ys (by simp only [Fr.put,Fr.get]; simpa using g0) (by simp only [Fr.put,Fr.get]; simpa using g3) (by simp only [Fr.put,Fr.get]; simpa using g4) (by simp only [Fr.put,Fr.get]; simpa using g18) (by simp only [Fr.put,Fr.get]; simpa using g24) q5 hm .refl (by rw [← hsa]; exact q2) q3 q4
        rw [← hQ]
        by_cases d1 : st < m
        · have z6 : decide ((st : Int) < m) = true := decide_eq_true (by omega)
          by_cases d2 : m < en
          · have z7 : decide ((m : Int) < en) = true := decide_eq_true (by omega)
            simp only [w132L8,z3,x145T9,w6,z6,z7,go_sem,Nat.reduceEqDiff,Nat.reduceAdd,Nat.reduceLT,Nat.reduceLeDiff,reduceIte,reduceCtorEq]
            refine CallK.by (CallV.of_spec (first := []) (cap := []) (s135 E xs hx hl st m en d1 d2 (by omega))) fun v H' ⟨hv,ys,hH,hm,he⟩ => ?_
            subst hv hH
            simp only [go_sem,Nat.reduceEqDiff,Nat.reduceAdd,Nat.reduceLT,Nat.reduceLeDiff,reduceIte,reduceCtorEq]
            exact st2 ys rfl rfl rfl rfl rfl rfl rfl (hm.mono (by omega) (by omega)) he
          · have z7 : decide ((m : Int) < en) = false := decide_eq_false (by omega)
            simp only [w132L8,z3,x145T9,w6,z6,z7,go_sem,Nat.reduceEqDiff,Nat.reduceAdd,Nat.reduceLT,Nat.reduceLeDiff,reduceIte,reduceCtorEq]
            exact st2 xs rfl rfl rfl rfl rfl rfl rfl .refl fun t => by rw [show rotI st m en t = t by unfold rotI; split <;> (try split) <;> omega]
        · have z6 : decide ((st : Int) < m) = false := decide_eq_false (by omega)
          simp only [w132L8,z3,x145T9,w6,z6,go_sem,Nat.reduceEqDiff,Nat.reduceAdd,Nat.reduceLT,Nat.reduceLeDiff,reduceIte,reduceCtorEq]
          exact st2 xs rfl rfl rfl rfl rfl rfl rfl .refl fun t => by rw [show rotI st m en t = t by unfold rotI; split <;> (try split) <;> omega]
    by_cases hmm : mid < m
    · have z5 : decide ((m : Int) > mid) = true := decide_eq_true (by omega)
      have e1 : s0 a m b = mid + m - b := by unfold s0; rw [← hmid,if_pos hmm]
      have e2 : r0 a m b = mid := by unfold r0; rw [← hmid,if_pos hmm]
      have w8 : IntKind.i64.wrap (((mid + m : Nat) : Int) - b) = ((mid + m - b : Nat) : Int) := by rw [wrap64 (by omega) (by omega)]; omega
      simp only [w132,w1,z1,w132T3,w2,z2,w132T7,w3,hf1,w4,w5,z5,w8,go_sem,Nat.reduceEqDiff,Nat.reduceAdd,Nat.reduceLT,Nat.reduceLeDiff,reduceIte,reduceCtorEq]
      refine ⟨by omega,main rfl rfl rfl rfl rfl rfl rfl ?_ ?_ rfl⟩
      · rw [e1]; rfl
      · rw [e2]; rfl
    · have z5 : decide ((m : Int) > mid) = false := decide_eq_false (by omega)
      have e1 : s0 a m b = a := by unfold s0; rw [← hmid,if_neg hmm]
      have e2 : r0 a m b = m := by unfold r0; rw [← hmid,if_neg hmm]
      simp only [w132,w1,z1,w132T3,w2,z2,w132T7,w3,hf1,w4,w5,z5,go_sem,Nat.reduceEqDiff,Nat.reduceAdd,Nat.reduceLT,Nat.reduceLeDiff,reduceIte,reduceCtorEq]
      refine ⟨by omega,main rfl rfl rfl rfl rfl rfl rfl ?_ ?_ rfl⟩
      · rw [e1]; rfl
      · rw [e2]; rfl
def Blks (key : List Int → Int) (s N : Nat) (ys : List (List Int)) : Prop := ∀ k : Nat,Asc [] key (k * s) (min ((k + 1) * s) N) ys
set_option maxHeartbeats 8000000 in
theorem s117 (E : SEnv H0 id fv key ok) (xs : List (List Int)) (hx : ∀ x ∈ xs,ok x) (hl : xs.length ≤ 1073741824) :
    Abs.Spec Try.prog 117 [.own id 0 xs.length xs.length 4,I xs.length,fv] (Hs H0 id xs) fun v H' => v = .tup [] ∧ ∃ ys,H' = Hs H0 id ys ∧ Moved [] 0 xs.length xs ys ∧ Asc [] key 0 xs.length ys := by
  obtain ⟨N,hN⟩ : ∃ N,N = xs.length := ⟨_,rfl⟩
  refine Abs.Spec.walk mixed fn117 nn117 t117 q117 nt117 (by simp) ?_
  obtain ⟨Q,hQ⟩ : ∃ Q : QT,Q = retA (Hs H0 id xs).length r117 fun v H' => v = .tup [] ∧ ∃ ys,H' = Hs H0 id ys ∧ Moved [] 0 xs.length xs ys ∧ Asc [] key 0 xs.length ys := ⟨_,rfl⟩
  rw [← hQ,← hN]
  have fin : ∀ (us : List (List Int)) {fr : Fr},Moved [] 0 N xs us → Asc [] key 0 N us → Q .norm fr (Hs H0 id us) [] := fun us fr hm ha => by
    rw [hQ]; exact leafN0 (E.hokB xs _) (fun _ _ h => h) (E.leB _ _) ⟨rfl,us,rfl,by rw [← hN]; exact hm,by rw [← hN]; exact ha⟩
  -- the second half: merging
  have part2 : ∀ (ys : List (List Int)) {fr : Fr},fr.get 0 = .own id 0 N N 4 → fr.get 1 = I N → fr.get 2 = fv → fr.get 6 = I (20 : Int) → Moved [] 0 N xs ys → Blks key 20 N ys →
      W ⟨Try.prog,(Hs H0 id xs).length,63,true⟩ Q (.loop c117L2) [.block 2] fr (Hs H0 id ys) [] := by
    intro ys fr g0 g1 g2 g6 hm0 hb0
    refine W_loop (fun q : { q : Nat × List (List Int) // 20 ≤ q.1 ∧ q.1 ≤ 2 * N + 20 ∧ Moved [] 0 N xs q.2 ∧ Blks key q.1 N q.2 } => ([(0,.own id 0 N N 4),(1,I N),(2,fv),(6,I q.1.1)],Hs H0 id q.1.2)) (fun q => 2 * N + 20 - q.1.1)
      ⟨(20,ys),Nat.le_refl _,by dsimp only; omega,hm0,hb0⟩ (idρ _) (Wk.ok (E.hokB xs ys) (fun _ _ h => h) (E.leB _ _) (by
        simp only [List.mem_cons,List.not_mem_nil,or_false,forall_eq_or_imp,forall_eq]
        exact ⟨⟨g0,decide_eq_true (E.hid' ys)⟩,⟨g1,rfl⟩,⟨g2,E.hfv' ys⟩,⟨g6,rfl⟩⟩) (fun _ h => by cases h)) ?_
    rintro ⟨⟨s,ys⟩,hs,hs2,hm,hb⟩
    dsimp only at hs hs2 hm hb ⊢
    by_cases hsN : s < N
    · have z1 : decide ((s : Int) < N) = true := decide_eq_true (by omega)
      have w1 : IntKind.i64.wrap (2 * (s : Int)) = ((2 * s : Nat) : Int) := by rw [wrap64 (by omega) (by omega)]; omega
      simp only [w117L2,z1,w1,go_sem,Nat.reduceEqDiff,Nat.reduceAdd,Nat.reduceLT,Nat.reduceLeDiff,reduceIte,reduceCtorEq]
      refine W_loop (fun q : { q : Nat × Nat × List (List Int) // q.2.1 = q.1 * (2 * s) ∧ q.2.1 ≤ N ∧ Moved [] 0 N xs q.2.2 ∧ (∀ k,k < q.1 → Asc [] key (k * (2 * s)) ((k + 1) * (2 * s)) q.2.2) ∧ ∀ k,2 * q.1 ≤ k → Asc [] key (k * s) (min ((k + 1) * s) N) q.2.2 } =>
        ([(0,.own id 0 N N 4),(1,I N),(2,fv),(6,I s),(7,I q.1.2.1),(8,I ((q.1.2.1 + 2 * s : Nat) : Int))],Hs H0 id q.1.2.2)) (fun q => N - q.1.2.1)
        ⟨(0,0,ys),by dsimp only; rw [Nat.zero_mul],Nat.zero_le _,hm,fun k h => by dsimp only at h; omega,fun k _ => hb k⟩ (idρ _) (Wk.ok (E.hokB xs ys) (fun _ _ h => h) (E.leB _ _) (by
          simp only [List.mem_cons,List.not_mem_nil,or_false,forall_eq_or_imp,forall_eq]
          exact ⟨⟨rfl,decide_eq_true (E.hid' ys)⟩,⟨rfl,rfl⟩,⟨rfl,E.hfv' ys⟩,⟨rfl,rfl⟩,⟨rfl,rfl⟩,⟨by rw [Nat.zero_add]; rfl,rfl⟩⟩) (fun _ h => by cases h)) ?_
      rintro ⟨⟨q,a,zs⟩,hq,haN,hm2,done,todo⟩
      dsimp only at hq haN hm2 done todo ⊢
      have hzl := hm2.len
      have hzok := moved_ok hm2 hx
      have e0 : (2 * q) * s = a := by rw [hq,Nat.mul_comm 2 q,Nat.mul_assoc]
      have e1 : (2 * q + 1) * s = a + s := by rw [Nat.succ_mul,e0]
      have e2 : (2 * q + 1 + 1) * s = a + 2 * s := by rw [Nat.succ_mul,e1]; omega
      have e3 : (q + 1) * (2 * s) = a + 2 * s := by rw [Nat.succ_mul,← hq]
      have t0 := todo (2 * q) (Nat.le_refl _)
      have t1 := todo (2 * q + 1) (by omega)
      rw [e0,e1] at t0
      rw [e1,e2] at t1
      have w2 : IntKind.i64.wrap ((a : Int) + s) = ((a + s : Nat) : Int) := by rw [wrap64 (by omega) (by omega)]; rfl
      by_cases hbN : a + 2 * s ≤ N
      · have z2 : decide ((((a + 2 * s : Nat) : Int)) ≤ N) = true := decide_eq_true (by omega)
        have w3 : IntKind.i64.wrap (((a + 2 * s : Nat) : Int) + ((2 * s : Nat) : Int)) = ((a + 2 * s + 2 * s : Nat) : Int) := by rw [wrap64 (by omega) (by omega)]; rfl
        rw [show min (a + s) N = a + s by omega] at t0
        rw [show min (a + 2 * s) N = a + 2 * s by omega] at t1
        simp only [w117L3,z2,w2,go_sem,Nat.reduceEqDiff,Nat.reduceAdd,Nat.reduceLT,Nat.reduceLeDiff,reduceIte,reduceCtorEq]
        have hzN : zs.length = N := by omega
        have hc := s132 E (a + 2 * s - a) zs a (a + s) (a + 2 * s) (Nat.le_refl _) hzok (by omega) (by omega) (by omega) (by omega) t0 t1
        rw [hzN] at hc
        refine CallK.by (CallV.of_spec (first := []) (cap := []) hc) fun v H' ⟨hv,us,hH,hm3,ha3⟩ => ?_
        subst hv hH
        simp only [w1,w3,go_sem,Nat.reduceEqDiff,Nat.reduceAdd,Nat.reduceLT,Nat.reduceLeDiff,reduceIte,reduceCtorEq]
        refine roundN (E.hokB xs _) (fun _ _ h => h) (E.leB _ _) ⟨(q + 1,a + 2 * s,us),e3.symm,hbN,hm2.trans (hm3.mono (by omega) (by omega)),fun k hk => ?_,fun k hk => ?_⟩ (by dsimp only; omega) rfl (by simp only [List.mem_cons,List.not_mem_nil,or_false,forall_eq_or_imp,forall_eq]; repeat' (first | exact ⟨rfl,E.hfv' us⟩ | exact ⟨rfl,decide_eq_true (E.hid' us)⟩ | exact ⟨rfl,rfl⟩ | constructor))
        · by_cases hkq : k = q
          · subst hkq; rw [← hq,e3]; exact ha3
          · have := Nat.mul_le_mul_right (2 * s) (show k + 1 ≤ q by dsimp only at hk; omega)
            rw [← hq] at this
            exact (done k (by dsimp only at hk; omega)).out hm3 (.inl this)
        · have := Nat.mul_le_mul_right s (show 2 * q + 1 + 1 ≤ k by dsimp only at hk; omega)
          rw [e2] at this
          exact (todo k (by dsimp only at hk; omega)).out hm3 (.inr this)
      · have z2 : decide ((((a + 2 * s : Nat) : Int)) ≤ N) = false := decide_eq_false (by omega)
        -- behind the last pair
        have out : ∀ (us : List (List Int)),Moved [] a N zs us → Asc [] key a N us → Blks key (2 * s) N us := fun us hm3 ha3 k => by
          by_cases hk : k < q
          · have := Nat.mul_le_mul_right (2 * s) (show k + 1 ≤ q by omega)
            rw [← hq] at this
            rw [show min ((k + 1) * (2 * s)) N = (k + 1) * (2 * s) by omega]
            exact (done k hk).out hm3 (.inl this)
          · by_cases hk2 : k = q
            · subst hk2; rw [← hq,e3,show min (a + 2 * s) N = N by omega]; exact ha3
            · have := Nat.mul_le_mul_right (2 * s) (show q + 1 ≤ k by omega)
              rw [e3] at this
              exact Asc.one (by omega)
        have w4 : IntKind.i64.wrap ((s : Int) * 2) = ((2 * s : Nat) : Int) := by rw [wrap64 (by omega) (by omega)]; omega
        by_cases hmN : a + s < N
        · have z3 : decide ((((a + s : Nat) : Int)) < N) = true := decide_eq_true (by omega)
          simp only [w117L3,z2,w117T4,w2,z3,go_sem,Nat.reduceEqDiff,Nat.reduceAdd,Nat.reduceLT,Nat.reduceLeDiff,reduceIte,reduceCtorEq]
          have hzN : zs.length = N := by omega
          have hc := s132 E (N - a) zs a (a + s) N (Nat.le_refl _) hzok (by omega) (by omega) (by omega) (by omega) (by rw [show min (a + s) N = a + s by omega] at t0; exact t0) (by rw [show min (a + 2 * s) N = N by omega] at t1; exact t1)
          rw [hzN] at hc
          refine CallK.by (CallV.of_spec (first := []) (cap := []) hc) fun v H' ⟨hv,us,hH,hm3,ha3⟩ => ?_
          subst hv hH
          simp only [w4,go_sem,Nat.reduceEqDiff,Nat.reduceAdd,Nat.reduceLT,Nat.reduceLeDiff,reduceIte,reduceCtorEq]
          exact roundN (E.hokB xs _) (fun _ _ h => h) (E.leB _ _) ⟨(2 * s,us),by dsimp only; omega,by dsimp only; omega,hm2.trans (hm3.mono (by omega) (by omega)),out us hm3 ha3⟩ (by dsimp only; omega) rfl (by simp only [List.mem_cons,List.not_mem_nil,or_false,forall_eq_or_imp,forall_eq]; repeat' (first | exact ⟨rfl,E.hfv' us⟩ | exact ⟨rfl,decide_eq_true (E.hid' us)⟩ | exact ⟨rfl,rfl⟩ | constructor))
        · have z3 : decide ((((a + s : Nat) : Int)) < N) = false := decide_eq_false (by omega)
          simp only [w117L3,z2,w117T4,w2,z3,w4,go_sem,Nat.reduceEqDiff,Nat.reduceAdd,Nat.reduceLT,Nat.reduceLeDiff,reduceIte,reduceCtorEq]
          exact roundN (E.hokB xs _) (fun _ _ h => h) (E.leB _ _) ⟨(2 * s,zs),by dsimp only; omega,by dsimp only; omega,hm2,out zs .refl (by rw [show min (a + s) N = N by omega] at t0; exact t0)⟩ (by dsimp only; omega) rfl (by simp only [List.mem_cons,List.not_mem_nil,or_false,forall_eq_or_imp,forall_eq]; repeat' (first | exact ⟨rfl,E.hfv' zs⟩ | exact ⟨rfl,decide_eq_true (E.hid' zs)⟩ | exact ⟨rfl,rfl⟩ | constructor))
    · have z1 : decide ((s : Int) < N) = false := decide_eq_false (by omega)
      simp only [w117L2,z1,go_sem,Nat.reduceEqDiff,Nat.reduceAdd,Nat.reduceLT,Nat.reduceLeDiff,reduceIte,reduceCtorEq]
      refine fin ys hm ?_
      have := hb 0
      rwa [Nat.zero_mul,Nat.zero_add,Nat.one_mul,show min s N = N by omega] at this
  simp only [w117,go_sem,Nat.reduceEqDiff,Nat.reduceAdd,Nat.reduceLT,Nat.reduceLeDiff,reduceIte,reduceCtorEq]
  refine W_loop (fun q : { q : Nat × Nat × List (List Int) // q.2.1 = q.1 * 20 ∧ q.2.1 ≤ N ∧ Moved [] 0 N xs q.2.2 ∧ ∀ k,k < q.1 → Asc [] key (k * 20) ((k + 1) * 20) q.2.2 } =>
    ([(0,.own id 0 N N 4),(1,I N),(2,fv),(6,I (20 : Int)),(7,I q.1.2.1),(8,I ((q.1.2.1 + 20 : Nat) : Int))],Hs H0 id q.1.2.2)) (fun q => N - q.1.2.1)
    ⟨(0,0,xs),rfl,Nat.zero_le _,.refl,fun k h => by dsimp only at h; omega⟩ (idρ _) (Wk.ok (E.hokB xs xs) (fun _ _ h => h) (E.leB _ _) (by simp only [List.mem_cons,List.not_mem_nil,or_false,forall_eq_or_imp,forall_eq]; repeat' (first | exact ⟨rfl,E.hfv' xs⟩ | exact ⟨rfl,decide_eq_true (E.hid' xs)⟩ | exact ⟨rfl,rfl⟩ | constructor)) (fun _ h => by cases h)) ?_
  rintro ⟨⟨q,a,zs⟩,hq,haN,hm,done⟩
  dsimp only at hq haN hm done ⊢
  have hzl := hm.len
  have hzok := moved_ok hm hx
  have hzN : zs.length = N := by omega
  by_cases hbN : a + 20 ≤ N
  · have z1 : decide ((((a + 20 : Nat) : Int)) ≤ N) = true := decide_eq_true (by omega)
    have w1 : IntKind.i64.wrap (((a + 20 : Nat) : Int) + 20) = ((a + 20 + 20 : Nat) : Int) := by rw [wrap64 (by omega) (by omega)]; rfl
    simp only [w117L0,z1,go_sem,Nat.reduceEqDiff,Nat.reduceAdd,Nat.reduceLT,Nat.reduceLeDiff,reduceIte,reduceCtorEq]
    have hc := s131 E zs hzok (by omega) a (a + 20) (by omega) (by omega)
    rw [hzN] at hc
    refine CallK.by (CallV.of_spec (first := []) (cap := []) hc) fun v H' ⟨hv,us,hH,hm3,ha3⟩ => ?_
    subst hv hH
    simp only [w1,go_sem,Nat.reduceEqDiff,Nat.reduceAdd,Nat.reduceLT,Nat.reduceLeDiff,reduceIte,reduceCtorEq]
    refine roundN (E.hokB xs _) (fun _ _ h => h) (E.leB _ _) ⟨(q + 1,a + 20,us),by dsimp only; omega,hbN,hm.trans (hm3.mono (by omega) (by omega)),fun k hk => ?_⟩ (by dsimp only; omega) rfl (by simp only [List.mem_cons,List.not_mem_nil,or_false,forall_eq_or_imp,forall_eq]; repeat' (first | exact ⟨rfl,E.hfv' us⟩ | exact ⟨rfl,decide_eq_true (E.hid' us)⟩ | exact ⟨rfl,rfl⟩ | constructor))
    by_cases hkq : k = q
    · subst hkq; rw [show k * 20 = a by omega,show (k + 1) * 20 = a + 20 by omega]; exact ha3
    · exact (done k (by dsimp only at hk; omega)).out hm3 (.inl (by dsimp only at hk; omega))
  · have z1 : decide ((((a + 20 : Nat) : Int)) ≤ N) = false := decide_eq_false (by omega)
    simp only [w117L0,z1,w117T1,go_sem,Nat.reduceEqDiff,Nat.reduceAdd,Nat.reduceLT,Nat.reduceLeDiff,reduceIte,reduceCtorEq]
    have hc := s131 E zs hzok (by omega) a N (by omega) (by omega)
    rw [hzN] at hc
    refine CallK.by (CallV.of_spec (first := []) (cap := []) hc) fun v H' ⟨hv,us,hH,hm3,ha3⟩ => ?_
    subst hv hH
    simp only [go_sem,Nat.reduceEqDiff,Nat.reduceAdd,Nat.reduceLT,Nat.reduceLeDiff,reduceIte,reduceCtorEq]
    refine part2 us rfl rfl rfl rfl (hm.trans (hm3.mono (by omega) (by omega))) fun k => ?_
    by_cases hk : k < q
    · rw [show min ((k + 1) * 20) N = (k + 1) * 20 by omega]
      exact (done k hk).out hm3 (.inl (by omega))
    · by_cases hk2 : k = q
      · subst hk2; rw [show k * 20 = a by omega,show min ((k + 1) * 20) N = N by omega]; exact ha3
      · exact Asc.one (by omega)
theorem s88 (E : SEnv H0 id fv key ok) (xs : List (List Int)) (hx : ∀ x ∈ xs,ok x) (hl : xs.length ≤ 1073741824) :
    Abs.Spec Try.prog 88 [.own id 0 xs.length xs.length 4,fv] (Hs H0 id xs) fun v H' => v = .tup [] ∧ ∃ ys,H' = Hs H0 id ys ∧ ys.Perm xs ∧ ys.Pairwise fun x y => key x ≤ key y := by
  refine Abs.Spec.walk mixed fn88 nn88 t88 q88 nt88 (by simp) ?_
  simp only [w88,go_sem,Nat.reduceEqDiff,Nat.reduceAdd,Nat.reduceLT,Nat.reduceLeDiff,reduceIte,reduceCtorEq]
  refine CallK.by (CallV.of_spec (first := []) (cap := []) (s117 E xs hx hl)) fun v H' ⟨hv,ys,hH,hm,ha⟩ => ?_
  subst hv hH
  simp only [go_sem,Nat.reduceEqDiff,Nat.reduceAdd,Nat.reduceLT,Nat.reduceLeDiff,reduceIte,reduceCtorEq]
  refine leafN0 (E.hokB xs _) (fun _ _ h => h) (E.leB _ _) ⟨rfl,ys,rfl,hm.perm,?_⟩
  rw [List.pairwise_iff_getElem]
  intro i j hi hj hij
  have := ha i j (Nat.zero_le _) (by omega) (by have := hm.len; omega)
  simpa [List.getD_eq_getElem?_getD,hi,hj] using this
end
end
open Go.Abs AVal
open Go.Abs AVal Go.Abs.Srt
theorem s86 (x : List Int) (hx : x.length = 4) (bx : Sp.inB 1000 x) : Abs.Spec Try.prog 86 [vec x] [] fun v H' => H' = [] ∧ v = I (Sp.size x) := by
  obtain ⟨p,q,r,s,rfl⟩ : ∃ p q r s,x = [p,q,r,s] := by
    match x,hx with
    | [p,q,r,s],_ => exact ⟨p,q,r,s,rfl⟩
  have hp := bx p (by simp)
  have hq := bx q (by simp)
  have hr := bx r (by simp)
  have hs := bx s (by simp)
  have hm : vec [p,q,r,s] = .agg [I p,I q,I r,I s] := rfl
  have ep := Sp.absW_ab (x := p) (by omega) (by omega)
  have eq := Sp.absW_ab (x := q) (by omega) (by omega)
  have er := Sp.absW_ab (x := r) (by omega) (by omega)
  have es := Sp.absW_ab (x := s) (by omega) (by omega)
  have bp := Sp.ab_le.2 hp
  have bq := Sp.ab_le.2 hq
  have br := Sp.ab_le.2 hr
  have bs := Sp.ab_le.2 hs
  have np := Sp.ab_nonneg p
  have nq := Sp.ab_nonneg q
  have nr := Sp.ab_nonneg r
  have ns := Sp.ab_nonneg s
  refine Abs.Spec.walk mixed fn86 nn86 t86 q86 nt86 (by simp) ?_
  have t1 : Int.toNat 1 = 1 := rfl
  have t2 : Int.toNat 2 = 2 := rfl
  have t3 : Int.toNat 3 = 3 := rfl
  simp only [w86,hm,t1,t2,t3,go_sem,Nat.reduceEqDiff,Nat.reduceAdd,Nat.reduceLT,Nat.reduceLeDiff,reduceIte,reduceCtorEq]
  repeat (refine And.intro (by decide) ?_)
  refine CallKD.pure (liftV (s87 p) rfl rfl) ?_
  simp only [t1,go_sem,Nat.reduceEqDiff,Nat.reduceAdd,Nat.reduceLT,Nat.reduceLeDiff,reduceIte,reduceCtorEq]
  repeat (refine And.intro (by decide) ?_)
  refine CallKD.pure (liftV (s87 q) rfl rfl) ?_
  simp only [t2,go_sem,Nat.reduceEqDiff,Nat.reduceAdd,Nat.reduceLT,Nat.reduceLeDiff,reduceIte,reduceCtorEq]
  repeat (refine And.intro (by decide) ?_)
  refine CallKD.pure (liftV (s87 r) rfl rfl) ?_
  simp only [t3,go_sem,Nat.reduceEqDiff,Nat.reduceAdd,Nat.reduceLT,Nat.reduceLeDiff,reduceIte,reduceCtorEq]
  repeat (refine And.intro (by decide) ?_)
  refine CallKD.pure (liftV (s87 s) rfl rfl) ?_
  simp only [go_sem,Nat.reduceEqDiff,Nat.reduceAdd,Nat.reduceLT,Nat.reduceLeDiff,reduceIte,reduceCtorEq]
  refine leaf (I _) rfl ⟨rfl,?_⟩
  rw [ep,eq,er,es,wrap64 (x := Sp.ab p + Sp.ab q) (by omega) (by omega),wrap64 (x := Sp.ab p + Sp.ab q + Sp.ab r) (by omega) (by omega),wrap64 (by omega) (by omega)]
  rfl
theorem size_bound {x : List Int} (bx : Sp.inB 1000 x) : 0 ≤ Sp.size x ∧ Sp.size x ≤ 4000 := by
  have h := fun i => Sp.ab_le.2 (Sp.inB_getD bx i)
  have h0 := h 0
  have h1 := h 1
  have h2 := h 2
  have h3 := h 3
  have n0 := Sp.ab_nonneg (x.getD 0 0)
  have n1 := Sp.ab_nonneg (x.getD 1 0)
  have n2 := Sp.ab_nonneg (x.getD 2 0)
  have n3 := Sp.ab_nonneg (x.getD 3 0)
  unfold Sp.size; omega
theorem s89 (x y : List Int) (hx : x.length = 4) (hy : y.length = 4) (bx : Sp.inB 1000 x) (b_y : Sp.inB 1000 y) : Abs.Spec Try.prog 89 [vec x,vec y,.rp [.fn (.func 86) [] []]] [] fun v H' => H' = [] ∧ v = I (Sp.size x - Sp.size y) := by
  refine Abs.Spec.walk mixed fn89 nn89 t89 q89 nt89 (by simp) ?_
  have hxl : (mI x).length = 4 := by rw [mI_length,hx]
  have hyl : (mI y).length = 4 := by rw [mI_length,hy]
  have hxc : cut true 4 (mI x) = vec x := cut_vec hx
  have hyc : cut true 4 (mI y) = vec y := cut_vec hy
  have sx := size_bound bx
  have sy := size_bound b_y
  simp only [w89,vec_eq,hxl,hyl,hxc,hyc,go_sem,Nat.reduceEqDiff,Nat.reduceAdd,Nat.reduceLT,Nat.reduceLeDiff,reduceIte,reduceCtorEq]
  refine ⟨allI_cell x,allI_cell y,by decide,?_⟩
  refine CallKD.pure (liftV (s86 x hx bx) (by simp [bndL,AVal.bnd,mI_bnd,vec]) rfl) ?_
  simp only [vec_eq,hxl,hyl,hxc,hyc,go_sem,Nat.reduceEqDiff,Nat.reduceAdd,Nat.reduceLT,Nat.reduceLeDiff,reduceIte,reduceCtorEq]
  refine CallKD.pure (liftV (s86 y hy b_y) (by simp [bndL,AVal.bnd,mI_bnd,vec]) rfl) ?_
  simp only [go_sem,Nat.reduceEqDiff,Nat.reduceAdd,Nat.reduceLT,Nat.reduceLeDiff,reduceIte,reduceCtorEq]
  exact leaf (I _) rfl ⟨rfl,by rw [wrap64 (by omega) (by omega)]⟩
def okV (x : List Int) : Prop := x.length = 4 ∧ Sp.inB 1000 x
theorem sortEnv {H0 : AHeap} {id sz : Nat} (hid : id < H0.length) (hok : HOk (LPb H0.length) H0) (hsz : H0[sz]? = some (.cells [.fn (.func 86) [] []])) (hne : sz ≠ id) : SEnv H0 id (.fn (.func 89) [] [.ptr sz 0]) Sp.size okV :=
  ⟨hid,hok,by have := (List.getElem?_eq_some_iff.1 hsz).1; simp [vid,this],fun x h => h.1,fun xs x y hx hy => by
    have hl := CallV.of_spec (first := []) (cap := [.ptr sz 0]) (args := [vec x,vec y]) (Spec.lend (args := [vec x,vec y,.ptr sz 0]) (args' := [vec x,vec y,.rp [.fn (.func 86) [] []]]) (s89 x y hx.1 hy.1 hx.2 hy.2) rfl (H := Hs H0 id xs) ⟨vle_vec _,vle_vec _,by
      refine ⟨rfl,by simp,by simp,?_⟩
      unfold Hs
      rw [List.getElem?_set_ne hne.symm,hsz]; rfl,trivial⟩)
    exact hl⟩
theorem s131n (fv : AVal) (hf : ∀ H,vle H [] [] 3 fv fv) : Abs.Spec Try.prog 131 [nilSl,I 0,I 0,fv] [] fun v H' => H' = [] ∧ v = .tup [] := by
  refine Abs.Spec.walk mixed fn131 nn131 t131 q131 nt131 (by simp) ?_
  have w1 : IntKind.i64.wrap ((0 : Int) + 1) = 1 := rfl
  have z1 : decide ((1 : Int) < 0) = false := rfl
  simp only [w131,w1,go_sem,Nat.reduceEqDiff,Nat.reduceAdd,Nat.reduceLT,Nat.reduceLeDiff,reduceIte,reduceCtorEq]
  refine W_loop (fun _ : Unit => ([(2,I 0),(8,I 1)],[])) (fun _ => 0) () [] (Wk.nil (by simp [fle,vle,Fr.get])) ?_
  intro _
  simp only [w131L0,z1,go_sem,Nat.reduceEqDiff,Nat.reduceAdd,Nat.reduceLT,Nat.reduceLeDiff,reduceIte,reduceCtorEq]
  exact retA_nil (.inl rfl) (p := True) (vs := []) rfl trivial (v := .tup []) trivial ⟨rfl,rfl⟩
theorem s117n (fv : AVal) (hb : fv.bnd 0 = true) (hf : ∀ H,vle H [] [] 3 fv fv) : Abs.Spec Try.prog 117 [nilSl,I 0,fv] [] fun v H' => H' = [] ∧ v = .tup [] := by
  refine Abs.Spec.walk mixed fn117 nn117 t117 q117 nt117 (by simp) ?_
  have z1 : decide ((20 : Int) ≤ 0) = false := rfl
  have z2 : decide ((20 : Int) < 0) = false := rfl
  simp only [w117,go_sem,Nat.reduceEqDiff,Nat.reduceAdd,Nat.reduceLT,Nat.reduceLeDiff,reduceIte,reduceCtorEq]
  refine W_loop (fun _ : Unit => ([(0,nilSl),(1,I 0),(2,fv),(6,I 20),(7,I 0),(8,I 20)],[])) (fun _ => 0) () [] (Wk.nil (by simp [fle,vle,Fr.get,hf])) ?_
  intro _
  simp only [w117L0,z1,w117T1,go_sem,Nat.reduceEqDiff,Nat.reduceAdd,Nat.reduceLT,Nat.reduceLeDiff,reduceIte,reduceCtorEq]
  refine CallK.pure (liftV (s131n fv hf) (by simp [bndL,AVal.bnd,hb]) rfl _) ?_
  simp only [go_sem,Nat.reduceEqDiff,Nat.reduceAdd,Nat.reduceLT,Nat.reduceLeDiff,reduceIte,reduceCtorEq]
  refine W_loop (fun _ : Unit => ([(1,I 0),(6,I 20)],[])) (fun _ => 0) () [] (Wk.nil (by simp [fle,vle,Fr.get])) ?_
  intro _
  simp only [w117L2,z2,go_sem,Nat.reduceEqDiff,Nat.reduceAdd,Nat.reduceLT,Nat.reduceLeDiff,reduceIte,reduceCtorEq]
  exact retA_nil (.inl rfl) (p := True) (vs := []) rfl trivial (v := .tup []) trivial ⟨rfl,rfl⟩
theorem s88n (fv : AVal) (hb : fv.bnd 0 = true) (hf : ∀ H,vle H [] [] 3 fv fv) : Abs.Spec Try.prog 88 [nilSl,fv] [] fun v H' => H' = [] ∧ v = .tup [] := by
  refine Abs.Spec.walk mixed fn88 nn88 t88 q88 nt88 (by simp) ?_
  simp only [w88,go_sem,Nat.reduceEqDiff,Nat.reduceAdd,Nat.reduceLT,Nat.reduceLeDiff,reduceIte,reduceCtorEq]
  refine CallK.pure (liftV (s117n fv hb hf) (by simp [bndL,AVal.bnd,hb]) rfl _) ?_
  simp only [go_sem,Nat.reduceEqDiff,Nat.reduceAdd,Nat.reduceLT,Nat.reduceLeDiff,reduceIte,reduceCtorEq]
  exact retA_nil (.inl rfl) (p := True) (vs := []) rfl trivial (v := .tup []) trivial ⟨rfl,rfl⟩
theorem movesL_ok {rows : List (List Int)} {n : Nat} {x : List Int} (h : x ∈ Sp.movesL rows n) : okV x := by
  obtain ⟨h1,h2,-⟩ := Sp.growL_mem n 0 rfl (Sp.z4_in _ (by omega)) h
  exact ⟨h1,Sp.inB_mono h2 (by have := (Sp.mostOf_le rows).2; omega)⟩
set_option maxHeartbeats 4000000 in
/-- **All basic moves**: those into which none fits of those before,when all moves up to the bound are sorted by size. -/
theorem s55 (rows : List (List Int)) (n : Nat) (hn : n ≤ 4) (h0 : rows ≠ []) (hr : Sp.Rows4 rows) : Abs.Spec Try.prog 55 [matV rows n] [] fun v H' =>
    ∃ l : List (List Int),l.Perm (Sp.movesL rows n) ∧ l.Pairwise (fun x y => Sp.size x ≤ Sp.size y) ∧ v = .own 0 0 (Sp.keepMin [] l).length (Sp.keepMin [] l).length 4 ∧ H' = [.cells (mI (Sp.keepMin [] l).flatten)] := by
  refine Abs.Spec.walk mixed fn55 nn55 t55 q55 nt55 (by simp) ?_
  have hmc : cut true 2 [sl false false (mV rows),I n] = matV rows n := rfl
  have lt : ∀ {H : AHeap} {j b},H[j]? = some b → j < H.length := fun hj => (List.getElem?_eq_some_iff.1 hj).1
  simp only [w55,matV_eq,hmc,go_sem,Nat.reduceEqDiff,Nat.reduceAdd,Nat.reduceLT,Nat.reduceLeDiff,reduceIte,reduceCtorEq]
  refine ⟨by decide,?_⟩
  refine CallKD.pure (liftV (s84 rows n h0 hr) (by simp [bndL,matV,AVal.bnd,mV_bnd]) rfl) ?_
  simp only [go_sem,Nat.reduceEqDiff,Nat.reduceAdd,Nat.reduceLT,Nat.reduceLeDiff,reduceIte,reduceCtorEq]
  have hm16 := (Sp.mostOf_le rows).2
  have hlen := Sp.movesL_len (rows := rows) hn
  refine CallKD.by (CallV.of_spec (first := []) (cap := []) (s83 rows n (Sp.mostOf rows) 1 hn hm16 hr [] none [.cells [sl false false (mV rows),I n],.cells [nilSl]] (by show 0 + (Sp.movesL rows n).length < _; omega) (by
    intro i b hi
    match i,hi with
    | 0,hi => simp at hi; subst hi; simp [blkN,bndL,AVal.bnd,mV_bnd]
    | 1,hi => simp at hi; subst hi; rfl
    | i + 2,hi => simp at hi) ⟨fun v hv => by simp at hv,rfl,fun _ => rfl,fun k hk => by cases hk⟩)) fun v H' ⟨hv,id',hm,hto⟩ => ?_
  subst hv
  rw [List.nil_append] at hm
  change Mvs 1 (Sp.movesL rows n) id' H' at hm
  have hok' : HOk (LPb H'.length) H' := (hto.hok (LPb 0) (by
    intro i b hi
    match i,hi with
    | 0,hi => simp at hi; subst hi; simp [blkN,bndL,AVal.bnd,mV_bnd]
    | 1,hi => simp at hi; subst hi; rfl
    | i + 2,hi => simp at hi)).mono fun _ _ h => h.mono (Nat.zero_le _)
  have h1l := lt hm.cell
  obtain ⟨ML,hML⟩ : ∃ ML,ML = Sp.movesL rows n := ⟨_,rfl⟩
  have hMok : ∀ x ∈ ML,okV x := fun x hx => movesL_ok (by rw [← hML]; exact hx)
  -- behind the sort
  obtain ⟨Q,hQ⟩ : ∃ Q : QT,Q = retA 0 r55 fun v H' => ∃ l : List (List Int),l.Perm (Sp.movesL rows n) ∧ l.Pairwise (fun x y => Sp.size x ≤ Sp.size y) ∧ v = .own 0 0 (Sp.keepMin [] l).length (Sp.keepMin [] l).length 4 ∧ H' = [.cells (mI (Sp.keepMin [] l).flatten)] := ⟨_,rfl⟩
  have back : ∀ (l : List (List Int)) {fr : Fr} {H : AHeap},l.Perm ML → l.Pairwise (fun x y => Sp.size x ≤ Sp.size y) → fr.get 5 = nilSl → fr.get 19 = I l.length → fr.get 20 = I (0 : Int) → vle H [none] [] 3 (fr.get 18) (.sl false false (mV l)) →
      W ⟨Try.prog,0,40,true⟩ Q (.loop c55L0) [.block 0,.seq c55T4] fr H [] := by
    intro l fr H hp hs g5 g19 g20 g18
    have hlok : ∀ x ∈ l,okV x := fun x hx => hMok x (hp.mem_iff.1 hx)
    have hll : l.length ≤ 1185921 := by rw [hp.length_eq,hML]; exact hlen
    refine W_loop (fun q : { q : List (List Int) × List (List Int) × List (List Int) // q.1 ++ q.2.1 = l ∧ Sp.keepMin [] l = Sp.keepMin q.2.2 q.2.1 ∧ (∀ x ∈ q.2.2,okV x) ∧ q.2.2.length ≤ q.1.length } => ([(5,.own 0 0 q.1.2.2.length q.1.2.2.length 4),(18,.sl false false (mV l)),(19,I l.length),(20,I q.1.1.length)],[.cells (mI q.1.2.2.flatten)])) (fun q => q.1.2.1.length)
      ⟨([],l,[]),rfl,rfl,by simp,Nat.le_refl _⟩ [none] (Wk.mk0 rfl (by simp [imgs,Blk.alive]) (by simp [hle,mI]) ⟨by simp [vle,g5],by simpa [imgs,Blk.alive] using g18,by simp [vle,g19],by simp [vle,g20],trivial⟩) ?_
    rintro ⟨⟨pre,suf,out⟩,hpl,hinv,hout,hol⟩
    dsimp only at hpl hinv hout hol ⊢
    cases suf with
    | nil =>
      have hz : decide ((pre.length : Int) < l.length) = false := decide_eq_false (by rw [← hpl]; simp)
      simp only [w55L0,hz,w55T4,go_sem,Nat.reduceEqDiff,Nat.reduceAdd,Nat.reduceLT,Nat.reduceLeDiff,reduceIte,reduceCtorEq]
      rw [hQ]
      refine leafO (.own 0 0 out.length out.length 4) [.cells (mI out.flatten)] [some 0] (Wk.one rfl rfl mI_bnd (by simp [fle,vle,Fr.get])) ⟨l,by rw [← hML]; exact hp,hs,?_⟩
      rw [hinv]; exact ⟨rfl,rfl⟩
    | cons x suf =>
      have hz : decide ((pre.length : Int) < l.length) = true := decide_eq_true (by rw [← hpl]; simp; omega)
      have hpll : pre.length < l.length := by rw [← hpl]; simp
      have hpi : (pre.length : Int) < l.length := by omega
      have hget : l.getD pre.length [] = x := by rw [← hpl]; simp [List.getD_eq_getElem?_getD]
      have hxm : x ∈ l := by rw [← hpl]; simp
      obtain ⟨hx4,hxb⟩ := hlok x hxm
      have hxl : (mI x).length = 4 := by rw [mI_length,hx4]
      have hxc : cut true 4 (mI x) = vec x := cut_vec hx4
      have hxo : (vec x).cellsOk = true := allI_cell x
      have hwk : IntKind.i64.wrap ((pre.length : Int) + 1) = ((pre.length + 1 : Nat) : Int) := by rw [wrap64 (by omega) (by omega)]; rfl
      have hmg : (mV l).getD pre.length .any = vec x := by rw [mV_get hpll,hget]
      have hinv' : Sp.keepMin [] l = if out.any (fun y => Sp.fitR y x) then Sp.keepMin out suf else Sp.keepMin (out ++ [x]) suf := by rw [hinv]; rfl
      simp only [w55L0,hz,mV_length,hpll,hmg,cells_vec,hxl,hxc,hxo,go_sem,Nat.reduceEqDiff,Nat.reduceAdd,Nat.reduceLT,Nat.reduceLeDiff,reduceIte,reduceCtorEq]
      refine ⟨by omega,?_⟩
      refine W_loop (fun q : { j : Nat // j ≤ out.length ∧ ∀ y ∈ out.take j,Sp.fitR y x = false } => ([(5,.own 0 0 out.length out.length 4),(7,ptr 1 0),(18,.sl false false (mV l)),(19,I l.length),(20,I pre.length),(24,.own 0 0 out.length out.length 4),(25,I out.length),(26,I q.1)],[.cells (mI out.flatten),.cells (mI x)])) (fun q => out.length - q.1)
        ⟨0,Nat.zero_le _,by simp⟩ [some 0,some 1] (Wk.mk0 rfl (by simp [imgs,Blk.alive]) (by simp [hle,csle,mI_bnd]) (by simp [fle,vle,Fr.get,mV_bnd])) ?_
      rintro ⟨j,hj,hno⟩
      dsimp only
      have ho4 : ∀ v ∈ out,v.length = 4 := fun v hv => (hout v hv).1
      by_cases hjl : j < out.length
      · have hz2 : decide ((j : Int) < out.length) = true := decide_eq_true (by omega)
        have hwj : IntKind.i64.wrap ((j : Int) + 1) = ((j + 1 : Nat) : Int) := by rw [wrap64 (by omega) (by omega)]; rfl
        obtain ⟨y,hy⟩ : ∃ y,out.getD j [] = y := ⟨_,rfl⟩
        have hym : y ∈ out := by rw [← hy,List.getD_eq_getElem?_getD,List.getElem?_eq_getElem hjl]; exact List.getElem_mem _
        obtain ⟨hy4,hyb⟩ := hout y hym
        have hcj := mF_cut' ho4 hjl
        rw [hy] at hcj
        have hyl : (mI y).length = 4 := by rw [mI_length,hy4]
        have hyc : cut true 4 (mI y) = vec y := cut_vec hy4
        have hyo : (vec y).cellsOk = true := allI_cell y
        have hml : (mI out.flatten).length = out.length * 4 := mF_len ho4
        simp only [w55L1,hz2,hcj,hml,cells_vec,hyl,hyc,hyo,hxl,hxc,go_sem,Nat.reduceEqDiff,Nat.reduceAdd,Nat.reduceLT,Nat.reduceLeDiff,reduceIte,reduceCtorEq]
        repeat (refine And.intro (by omega) ?_)
        refine CallK.pure (liftV (s90 y x hy4 hx4) (by simp [bndL,vec_bnd]) rfl _) ?_
        rw [Sp.fitG_fitR (by omega) hyb hxb]
        cases hf : Sp.fitR y x with
        | true =>
          simp only [w55T3,hwk,go_sem,Nat.reduceEqDiff,Nat.reduceAdd,Nat.reduceLT,Nat.reduceLeDiff,reduceIte,reduceCtorEq]
          have hany : out.any (fun y => Sp.fitR y x) = true := List.any_eq_true.2 ⟨y,hym,hf⟩
          rw [hany] at hinv'
          exact round1 rfl ⟨(pre ++ [x],suf,out),by simp [hpl],hinv',hout,by simp; omega⟩ [some 0] (by simp) (Wk.mk0 rfl (by simp [imgs,Blk.alive]) (by simp [hle,csle,mI_bnd]) (by simp [fle,vle,Fr.get,mV_bnd]))
        | false =>
          simp only [hwj,go_sem,Nat.reduceEqDiff,Nat.reduceAdd,Nat.reduceLT,Nat.reduceLeDiff,reduceIte,reduceCtorEq]
          refine round1 rfl ⟨j + 1,hjl,fun z hz => ?_⟩ [some 0,some 1] (by dsimp only; omega) (Wk.mk0 rfl (by simp [imgs,Blk.alive]) (by simp [hle,csle,mI_bnd]) (by simp [fle,vle,Fr.get,mV_bnd]))
          rw [List.take_add_one,List.getElem?_eq_getElem hjl] at hz
          rcases List.mem_append.1 hz with hz | hz
          · exact hno z hz
          · have : out[j] = y := by rw [← hy,List.getD_eq_getElem?_getD,List.getElem?_eq_getElem hjl]; rfl
            rw [this] at hz
            simp at hz; subst hz; exact hf
      · have hz2 : decide ((j : Int) < out.length) = false := decide_eq_false (by omega)
        have hjo : j = out.length := by omega
        rw [hjo,List.take_length] at hno
        have hany : out.any (fun y => Sp.fitR y x) = false := List.any_eq_false.2 fun y hy => by simp [hno y hy]
        rw [hany] at hinv'
        have dz : mI x ++ List.drop 4 [[I 0,I 0,I 0,I 0]].flatten = mI x := by simp
        have tk : (mI x).take 4 = mI x := List.take_of_length_le (by omega)
        have g8 : (mI out.flatten).take (out.length * 4) = mI out.flatten := List.take_of_length_le (by rw [mF_len ho4]; exact Nat.le_refl _)
        have g9 : out.flatten ++ x = (out ++ [x]).flatten := by simp
        have g10 : (out.length + 1 ≤ out.length) = False := by simp
        have hml : (mI out.flatten).length = out.length * 4 := mF_len ho4
        have hpl2 : pre.length ≤ l.length := by rw [← hpl]; simp
        simp only [w55L1,hz2,w55T2,w55T3,hwk,hxl,hxc,cells_vec,dz,tk,g8,g9,g10,hml,go_sem,Nat.reduceEqDiff,Nat.reduceAdd,Nat.reduceLT,Nat.reduceLeDiff,reduceIte,reduceCtorEq]
        refine ⟨rfl,by omega,?_⟩
        refine round1 rfl ⟨(pre ++ [x],suf,out ++ [x]),by simp [hpl],hinv',fun z hz => ?_,by simp; omega⟩ [some 3] (by simp) (Wk.mk0 rfl (by simp [imgs,Blk.alive]) (by simp [hle,csle,mI_bnd]) (by simp [fle,vle,Fr.get,mV_bnd]))
        rcases List.mem_append.1 hz with hz | hz
        · exact hout z hz
        · simp at hz; subst hz; exact ⟨hx4,hxb⟩
  rw [← hQ]
  rw [← hML] at hm
  have g1 : (H' ++ [Blk.cells [.val .nilFunc]])[H'.length]? = some (.cells [.val .nilFunc]) := app_get0 _ _
  have g2 : ∀ (b c : Blk),(H' ++ [b]).set H'.length c = H' ++ [c] := fun b c => app_set0 _ _ _
  have g3 : ∀ (b : Blk),(H' ++ [b])[H'.length]? = some b := fun b => app_get0 _ _
  cases id' with
  | none =>
    have hML0 := hm.emp rfl
    have hc : H'[1]? = some (.cells [nilSl]) := hm.cell
    have g4 : ∀ (b : Blk),(H' ++ [b])[1]? = some (.cells [nilSl]) := fun b => by rw [List.getElem?_append_left h1l]; exact hc
    simp only [g1,g2,g4,go_sem,Nat.reduceEqDiff,Nat.reduceAdd,Nat.reduceLT,Nat.reduceLeDiff,reduceIte,reduceCtorEq]
    refine CallK.pure (CallV.of_spec (first := []) (cap := []) (Spec.lend (args' := [nilSl,.fn (.func 89) [] [.rp [.fn (.func 86) [] []]]]) (s88n _ rfl (fun H => by simp [vle,vle.vleL,bndL,AVal.bnd])) rfl ⟨rfl,⟨rfl,trivial,⟨rfl,by simp,by simp,by rw [g3]; rfl⟩,trivial⟩,trivial⟩)) ?_
    simp only [g4,go_sem,Nat.reduceEqDiff,Nat.reduceAdd,Nat.reduceLT,Nat.reduceLeDiff,reduceIte,reduceCtorEq]
    exact back [] (by rw [hML0]) .nil rfl rfl rfl ⟨rfl,rfl,rfl⟩
  | some k =>
    obtain ⟨hk1,hk⟩ := hm.blk k rfl
    have hkl := lt hk
    have hc : H'[1]? = some (.cells [own k 0 ML.length ML.length 4]) := hm.cell
    have g4 : ∀ (b : Blk),(H' ++ [b])[1]? = some (.cells [own k 0 ML.length ML.length 4]) := fun b => by rw [List.getElem?_append_left h1l]; exact hc
    simp only [g1,g2,g4,go_sem,Nat.reduceEqDiff,Nat.reduceAdd,Nat.reduceLT,Nat.reduceLeDiff,reduceIte,reduceCtorEq]
    obtain ⟨H1,hH1⟩ : ∃ H1,H1 = H' ++ [Blk.cells [.fn (.func 86) [] []]] := ⟨_,rfl⟩
    have hself : Hs H1 k ML = H1 := by
      have h9 : H1[k]? = some (.cells (mI ML.flatten)) := by rw [hH1,List.getElem?_append_left hkl]; exact hk
      obtain ⟨hlt,he⟩ := List.getElem?_eq_some_iff.1 h9
      unfold Hs
      rw [← he]; exact List.set_getElem_self hlt
    have hE : SEnv H1 k (.fn (.func 89) [] [.ptr H'.length 0]) Sp.size okV := sortEnv (by rw [hH1]; simp; omega) (by
      rw [hH1]; exact (hok'.push (by simp [blkN,bndL,AVal.bnd])).mono fun _ _ h => h.mono (by simp)) (by rw [hH1]; exact app_get0 _ _) (by omega)
    have hcall := s88 hE ML hMok (by rw [hML]; omega)
    rw [hself,hH1] at hcall
    refine CallK.by (CallV.of_spec (first := []) (cap := []) hcall) fun v H2 ⟨hv,l,hH2,hp,hs⟩ => ?_
    subst hv hH2
    rw [← hH1]
    have g5 : (Hs H1 k l)[1]? = some (.cells [own k 0 ML.length ML.length 4]) := by
      unfold Hs; rw [List.getElem?_set_ne hk1,hH1]; exact g4 _
    simp only [g5,go_sem,Nat.reduceEqDiff,Nat.reduceAdd,Nat.reduceLT,Nat.reduceLeDiff,reduceIte,reduceCtorEq]
    refine back l hp hs rfl (by rw [← hp.length_eq]; rfl) rfl ?_
    have hl4 : ∀ v ∈ l,v.length = 4 := fun v hv => (hMok v (hp.mem_iff.1 hv)).1
    exact vle_mV hl4 (Hs_get hE.hid) (by simp) hp.length_eq.symm
open Go.Abs AVal
theorem s108 (x : Int) : Abs.Spec Try.prog 108 [I x] [] fun v H' => H' = [] ∧ v = B false := by
  refine Abs.Spec.walk mixed fn108 nn108 t108 q108 nt108 (by simp) ?_
  simp only [w108,bne_self_eq_false,go_sem,Nat.reduceEqDiff,Nat.reduceAdd,Nat.reduceLT,Nat.reduceLeDiff,reduceIte,reduceCtorEq]
  exact leaf (B _) rfl ⟨rfl,rfl⟩
def cmp1 (x y : Int) : Int := if x < y then -1 else if x > y then 1 else 0
theorem s81 (x y : Int) : Abs.Spec Try.prog 81 [I x,I y] [] fun v H' => H' = [] ∧ v = I (cmp1 x y) := by
  refine Abs.Spec.walk mixed fn81 nn81 t81 q81 nt81 (by simp) ?_
  simp only [w81,go_sem,Nat.reduceEqDiff,Nat.reduceAdd,Nat.reduceLT,Nat.reduceLeDiff,reduceIte,reduceCtorEq]
  refine CallK.by (CallV.of_spec (s108 x)) fun v H' ⟨h1,h2⟩ => ?_
  subst h1 h2
  simp only [go_sem,Nat.reduceEqDiff,Nat.reduceAdd,Nat.reduceLT,Nat.reduceLeDiff,reduceIte,reduceCtorEq]
  refine CallK.by (CallV.of_spec (s108 y)) fun v H' ⟨h1,h2⟩ => ?_
  subst h1 h2
  simp only [go_sem,Nat.reduceEqDiff,Nat.reduceAdd,Nat.reduceLT,Nat.reduceLeDiff,reduceIte,reduceCtorEq]
  refine IC.splitP (fun h => ?_) fun h => ?_
  · simp only [go_sem,Nat.reduceEqDiff,Nat.reduceAdd,Nat.reduceLT,Nat.reduceLeDiff,reduceIte,reduceCtorEq]
    exact leaf (I _) rfl ⟨rfl,by rw [cmp1,if_pos h]⟩
  · simp only [go_sem,Nat.reduceEqDiff,Nat.reduceAdd,Nat.reduceLT,Nat.reduceLeDiff,reduceIte,reduceCtorEq]
    refine IC.splitP (fun h2 => ?_) fun h2 => ?_
    · simp only [go_sem,Nat.reduceEqDiff,Nat.reduceAdd,Nat.reduceLT,Nat.reduceLeDiff,reduceIte,reduceCtorEq]
      exact leaf (I _) rfl ⟨rfl,by rw [cmp1,if_neg h,if_pos h2]⟩
    · simp only [go_sem,Nat.reduceEqDiff,Nat.reduceAdd,Nat.reduceLT,Nat.reduceLeDiff,reduceIte,reduceCtorEq]
      exact leaf (I _) rfl ⟨rfl,by rw [cmp1,if_neg h,if_neg h2]⟩
theorem s52 (nn t nn' t' : Bool) (a b : List Int) (ha : a.length < 9223372036854775808) (hb : b.length < 9223372036854775808) : Abs.Spec Try.prog 52 [.sl nn t (mI a),.sl nn' t' (mI b)] [] fun v H' => H' = [] ∧ v = I (Sp.cmpL a b) := by
  refine Abs.Spec.walk mixed fn52 nn52 t52 q52 nt52 (by simp) ?_
  simp only [w52,go_sem,Nat.reduceEqDiff,Nat.reduceAdd,Nat.reduceLT,Nat.reduceLeDiff,reduceIte,reduceCtorEq]
  refine W_loop (fun q : { i : Nat // i ≤ a.length ∧ i ≤ b.length ∧ Sp.cmpL (a.drop i) (b.drop i) = Sp.cmpL a b } => ([(0,.sl nn t (mI a)),(1,.sl nn' t' (mI b)),(9,.sl nn t (mI a)),(10,I a.length),(11,I q.1)],[])) (fun q => a.length - q.1)
    ⟨0,by omega,by omega,rfl⟩ [] (Wk.nil (by simp [fle,vle,Fr.get,mI_bnd])) ?_
  rintro ⟨i,hi,hib,hinv⟩
  dsimp only
  by_cases hil : i < a.length
  · have hz : decide ((i : Int) < a.length) = true := decide_eq_true (by omega)
    have hil' : (i : Int) < a.length := by omega
    have hwk : IntKind.i64.wrap ((i : Int) + 1) = ((i + 1 : Nat) : Int) := by rw [wrap64 (by omega) (by omega)]; rfl
    obtain ⟨x,hx⟩ : ∃ x,a.getD i 0 = x := ⟨_,rfl⟩
    have hx' : a[i] = x := by rw [← hx,List.getD_eq_getElem?_getD,List.getElem?_eq_getElem hil]; rfl
    rw [List.drop_eq_getElem_cons hil,hx'] at hinv
    by_cases hbl : i < b.length
    · have hz2 : decide ((i : Int) ≥ b.length) = false := decide_eq_false (by omega)
      have hbl' : (i : Int) < b.length := by omega
      obtain ⟨y,hy⟩ : ∃ y,b.getD i 0 = y := ⟨_,rfl⟩
      have hy' : b[i] = y := by rw [← hy,List.getD_eq_getElem?_getD,List.getElem?_eq_getElem hbl]; rfl
      rw [List.drop_eq_getElem_cons hbl,hy',Sp.cmpL] at hinv
      simp only [w52L0,hz,hil',mI_get,hil,hx,mI_hd,hz2,hbl,hbl',hy,go_sem,Nat.reduceEqDiff,Nat.reduceAdd,Nat.reduceLT,Nat.reduceLeDiff,reduceIte,reduceCtorEq]
      refine CallK.pure (liftV (s81 x y) (by simp [bndL,AVal.bnd]) rfl _) ?_
      have c1 : ((-1 : Int) != 0) = true := rfl
      have c2 : ((1 : Int) != 0) = true := rfl
      by_cases h1 : x < y
      · rw [if_pos h1] at hinv
        rw [cmp1,if_pos h1]
        simp only [c1,go_sem,Nat.reduceEqDiff,Nat.reduceAdd,Nat.reduceLT,Nat.reduceLeDiff,reduceIte,reduceCtorEq]
        exact leaf (I _) rfl ⟨rfl,by rw [hinv]⟩
      · rw [if_neg h1] at hinv
        by_cases h2 : x > y
        · rw [if_pos h2] at hinv
          rw [cmp1,if_neg h1,if_pos h2]
          simp only [c2,go_sem,Nat.reduceEqDiff,Nat.reduceAdd,Nat.reduceLT,Nat.reduceLeDiff,reduceIte,reduceCtorEq]
          exact leaf (I _) rfl ⟨rfl,by rw [hinv]⟩
        · rw [if_neg h2] at hinv
          rw [cmp1,if_neg h1,if_neg h2]
          simp only [z00,hwk,go_sem,Nat.reduceEqDiff,Nat.reduceAdd,Nat.reduceLT,Nat.reduceLeDiff,reduceIte,reduceCtorEq]
          refine round0 rfl ⟨i + 1,by omega,by omega,hinv⟩ (by dsimp only; omega) rfl ?_
          simp [fle,vle,Fr.get,mI_bnd]
    · have hz2 : decide ((i : Int) ≥ b.length) = true := decide_eq_true (by omega)
      rw [List.drop_of_length_le (show b.length ≤ i by omega),Sp.cmpL] at hinv
      simp only [w52L0,hz,hil',mI_get,hil,hx,mI_hd,hz2,go_sem,Nat.reduceEqDiff,Nat.reduceAdd,Nat.reduceLT,Nat.reduceLeDiff,reduceIte,reduceCtorEq]
      exact leaf (I _) rfl ⟨rfl,by rw [hinv]⟩
  · have hz : decide ((i : Int) < a.length) = false := decide_eq_false (by omega)
    obtain rfl : i = a.length := by omega
    rw [List.drop_length] at hinv
    simp only [w52L0,hz,w52T1,go_sem,Nat.reduceEqDiff,Nat.reduceAdd,Nat.reduceLT,Nat.reduceLeDiff,reduceIte,reduceCtorEq]
    refine IC.splitP (fun h => ?_) fun h => ?_
    · obtain ⟨y,r,hr⟩ : ∃ y r,b.drop a.length = y :: r := by
        cases hd : b.drop a.length with
        | nil => have := List.length_drop (l := b) (i := a.length); rw [hd] at this; simp at this; omega
        | cons y r => exact ⟨y,r,rfl⟩
      rw [hr,Sp.cmpL] at hinv
      simp only [go_sem,Nat.reduceEqDiff,Nat.reduceAdd,Nat.reduceLT,Nat.reduceLeDiff,reduceIte,reduceCtorEq]
      exact leaf (I _) rfl ⟨rfl,by rw [hinv]⟩
    · rw [List.drop_of_length_le (by omega),Sp.cmpL] at hinv
      simp only [go_sem,Nat.reduceEqDiff,Nat.reduceAdd,Nat.reduceLT,Nat.reduceLeDiff,reduceIte,reduceCtorEq]
      exact leaf (I _) rfl ⟨rfl,by rw [hinv]⟩
theorem sortRows {H : AHeap} {i n lb : Nat} {xs : List (List Int)} (hx : ∀ x ∈ xs,x.length < 9223372036854775808) (hn : n = xs.length) (hi : H[i]? = some (.cells (mS xs))) (hsz : n < 4611686018427387904) :
    CallV Try.prog (.fn (.func 51) [] []) [.own i 0 n lb 1,.fn (.func 52) [] []] H fun v' H' => v' = .tup [] ∧ H' = H.set i (.cells (mS (Sp.sortV xs))) := by
  have hk := CallV.sortFunc sortLay (α := { l : List Int // l.length < 9223372036854775808 }) (fun l => sI l.1) (fun E x v h => by
    rcases h.inv_sl with ⟨-,-,rfl⟩ | ⟨b,off,cap,k,rfl,-⟩ | ⟨-,-,a,rfl⟩ <;> rfl) (fun H x => by simp [vle,sI,mI_bnd]) (fun a b => Sp.cmpL a.1 b.1) (Sp.swoL fun a : { l : List Int // l.length < 9223372036854775808 } => a.1) (g := 52)
    (fun x y => s52 false false false false x.1 y.1 x.2 y.2) (H := H) (i := i) (n := n) (lb := lb) (xs := xs.attach.map fun x => ⟨x.1,hx x.1 x.2⟩) (rest := []) (by simpa using hn) (by
      rw [hi,List.append_nil,List.map_map]
      congr 2
      show xs.map sI = _
      conv => lhs; rw [← List.attach_map_subtype_val xs,List.map_map]
      rfl) hsz
  refine hk.mono fun v' H' ⟨hv,ys,hp,hs,hH⟩ => ⟨hv,?_⟩
  have e : ys.map (·.1) = Sp.sortV xs := by
    refine Sp.asc_unique ?_ (Sp.sortV_asc xs) ?_
    · rw [List.pairwise_map]
      refine hs.imp fun {a b} h => ?_
      have := Sp.cmpL_anti b.1 a.1
      simp only [ltOf,decide_eq_false_iff_not] at h
      omega
    · refine ((hp.map (·.1)).trans ?_).trans (Sp.sortV_perm xs).symm
      rw [List.map_map]
      have : (xs.attach.map ((fun x : { l : List Int // l.length < 9223372036854775808 } => x.1) ∘ fun x => ⟨x.1,hx x.1 x.2⟩)) = xs := List.attach_map_subtype_val xs
      rw [this]
  rw [hH,← e,List.append_nil]
  show _ = H.set i (.cells ((ys.map (·.1)).map sI))
  rw [List.map_map]; rfl
theorem s6o (t : Bool) (xs : List Int) (h0 : xs ≠ []) (hl : xs.length ≤ 137388953472) : Abs.Spec Try.prog 6 [.sl true t (mI xs)] [] fun v H' => v = .own 0 0 xs.length xs.length 1 ∧ H' = [.cells (mI xs)] := by
  refine Abs.Spec.walk mixed fn6 nn6 t6 q6 nt6 (by simp) ?_
  have h1 : ¬ xs.length ≤ 0 := by have := List.length_pos_iff.2 h0; omega
  simp only [w6,h1,go_sem,Nat.reduceEqDiff,Nat.reduceAdd,Nat.reduceLT,Nat.reduceLeDiff,reduceIte,reduceCtorEq]
  refine ⟨?_,?_⟩
  · simp; omega
  · exact leafO _ _ [some 1] (Wk.one rfl rfl mI_bnd (by simp [fle,vle,Fr.get])) ⟨rfl,rfl⟩
theorem s6o' (t : Bool) (xs : List Int) (h0 : xs ≠ []) (hl : xs.length ≤ 137388953472) : Abs.Spec Try.prog 6 [.sl false t (mI xs)] [] fun v H' => v = .own 0 0 xs.length xs.length 1 ∧ H' = [.cells (mI xs)] :=
  Spec.split_nil (post := []) (fun h => absurd (by simpa [mI] using h) h0) (s6o t xs h0 hl)
theorem s94 (rows : List (List Int)) (n : Nat) (h1 : 1 ≤ n) (hn : n ≤ 4) (x : List Int) (hx : x.length = 4) : Abs.Spec Try.prog 94 [matV rows n,vec x] [] fun v H' => H' = [] ∧ v = .sl false false (mI (x.take n)) := by
  refine Abs.Spec.walk mixed fn94 nn94 t94 q94 nt94 (by simp) ?_
  have hxl : (mI x).length = 4 := by rw [mI_length,hx]
  have hxn : (x.take n).length = n := by rw [List.length_take]; omega
  simp only [w94,hxl,matV_eq,vec_eq,Nat.sub_zero,go_sem,Nat.reduceEqDiff,Nat.reduceAdd,Nat.reduceLT,Nat.reduceLeDiff,reduceIte,reduceCtorEq]
  refine ⟨allI_cell x,⟨Int.le_refl 0,by omega,.inl trivial⟩,?_⟩
  refine CallK.by (CallV.of_spec (first := []) (cap := []) (Spec.lendInts (args := [.own 1 0 n 4 1]) (args' := [.sl false false (mI (x.take n))]) (lb := (x.take n).length) (s6o' false (x.take n) (fun e => by rw [e] at hxn; simp at hxn; omega) (by omega)) ⟨vle_mI rfl (by simp) hxn.symm mI_take,trivial⟩)) fun v H' ⟨hv,hH⟩ => ?_
  subst hv hH
  simp only [go_sem,Nat.reduceEqDiff,Nat.reduceAdd,Nat.reduceLT,Nat.reduceLeDiff,reduceIte,reduceCtorEq]
  exact leaf (.sl false false (mI (x.take n))) ⟨mI_bnd,fun h => h,fun h => h,rfl⟩ ⟨rfl,rfl⟩
theorem s60 (rows : List (List Int)) (n : Nat) (h1 : 1 ≤ n) (hn : n ≤ 4) (xs : List (List Int)) (h4 : ∀ x ∈ xs,x.length = 4) (hl : xs.length ≤ 40000000000) : Abs.Spec Try.prog 60 [matV rows n,.sl false false (mV xs)] [] fun v H' => H' = [] ∧ v = .sl false false (mS (Sp.sortV (xs.map fun x => x.take n))) := by
  refine Abs.Spec.walk mixed fn60 nn60 t60 q60 nt60 (by simp) ?_
  have hmc : cut true 2 [sl false false (mV rows),I n] = matV rows n := rfl
  simp only [w60,matV_eq,mV_length,go_sem,Nat.reduceEqDiff,Nat.reduceAdd,Nat.reduceLT,Nat.reduceLeDiff,reduceIte,reduceCtorEq]
  refine W_loop (fun q : { q : List (List Int) × List (List Int) // q.1 ++ q.2 = xs } => ([(2,ptr 0 0),(5,.own 1 0 q.1.1.length q.1.1.length 1),(8,.sl false false (mV xs)),(9,I xs.length),(10,I q.1.1.length)],[.cells [sl false false (mV rows),I n],.cells (mS (q.1.1.map fun x => x.take n))])) (fun q => q.1.2.length)
    ⟨([],xs),rfl⟩ [some 0,none] (Wk.mk0 rfl (by simp [imgs,Blk.alive]) (by simp [hle,csle,bndL,AVal.bnd,mV_bnd,mS_nil]) (by simp [fle,vle,Fr.get,mV_bnd])) ?_
  rintro ⟨⟨pre,suf⟩,hp⟩
  dsimp only at hp
  subst hp
  have hlp : pre.length ≤ (pre ++ suf).length := by simp
  cases suf with
  | nil =>
    rw [List.append_nil] at hl h4
    simp only [w60L0,w60T1,go_sem,Nat.reduceEqDiff,Nat.reduceAdd,Nat.reduceLT,Nat.reduceLeDiff,reduceIte,reduceCtorEq]
    refine CallK.by (sortRows (xs := pre.map fun x => x.take n) (fun x hx => ?_) (by simp) rfl (by omega)) fun v H' ⟨hv,hH⟩ => ?_
    · obtain ⟨y,_,rfl⟩ := List.mem_map.1 hx
      rw [List.length_take]; omega
    subst hv hH
    simp only [go_sem,Nat.reduceEqDiff,Nat.reduceAdd,Nat.reduceLT,Nat.reduceLeDiff,reduceIte,reduceCtorEq]
    refine leaf (.sl false false (mS (Sp.sortV (pre.map fun x => x.take n)))) (vle_mS rfl (by simp) (by rw [(Sp.sortV_perm _).length_eq]; simp) (List.take_of_length_le (by rw [mS_length,(Sp.sortV_perm _).length_eq]; simp))) ⟨rfl,rfl⟩
  | cons x suf =>
    have hx4 : x.length = 4 := h4 x (by simp)
    have hxl : (mI x).length = 4 := by rw [mI_length,hx4]
    have hxc : cut true 4 (mI x) = vec x := cut_vec hx4
    have hxo : (vec x).cellsOk = true := allI_cell x
    have hwk : IntKind.i64.wrap ((pre.length : Int) + 1) = pre.length + 1 := wrap64 (by simp at hl; omega) (by simp at hl; omega)
    simp only [w60L0,mV_mid,mV_length,cells_vec,hxl,hxc,hxo,hmc,go_sem,Nat.reduceEqDiff,Nat.reduceAdd,Nat.reduceLT,Nat.reduceLeDiff,reduceIte,reduceCtorEq]
    refine CallK.pure (liftV (s94 rows n h1 hn x hx4) (by simp [bndL,vec_bnd,matV,AVal.bnd,mV_bnd]) (by simp [AVal.bnd,mI_bnd]) _) ?_
    have e : mS (List.take pre.length (List.map (fun x => List.take n x) pre)) ++ [sl false false (mI (List.take n x))] = mS ((pre ++ [x]).map fun x => x.take n) := by
      rw [List.take_of_length_le (by simp),mS_one,mS_append]; simp
    simp only [hwk,e,go_sem,Nat.reduceEqDiff,Nat.reduceAdd,Nat.reduceLT,Nat.reduceLeDiff,reduceIte,reduceCtorEq]
    refine ⟨by simp at hl; omega,?_⟩
    exact round1 rfl ⟨(pre ++ [x],suf),by simp⟩ [some 0,some 4] (by simp) (Wk.mk0 rfl (by simp [imgs,Blk.alive]) (by simp [hle,csle,bndL,AVal.bnd,mV_bnd,mS_bnd]) (by simp [fle,vle,Fr.get,mV_bnd]))
def IsB (rows : List (List Int)) (n : Nat) (bs : List (List Int)) : Prop := ∃ l : List (List Int),l.Perm (Sp.movesL rows n) ∧ l.Pairwise (fun x y => Sp.size x ≤ Sp.size y) ∧ bs = Sp.keepMin [] l
theorem keepMin_sub {P : List Int → Prop} : ∀ {l out : List (List Int)},(∀ x ∈ out,P x) → (∀ x ∈ l,P x) → ∀ x ∈ Sp.keepMin out l,P x
  | [],out,h,_ => h
  | y :: l,out,h,hl => by
    unfold Sp.keepMin
    split
    · exact keepMin_sub h fun x hx => hl x (by simp [hx])
    · refine keepMin_sub (fun x hx => ?_) fun x hx => hl x (by simp [hx])
      rcases List.mem_append.1 hx with hx | hx
      · exact h x hx
      · simp at hx; subst hx; exact hl _ (by simp)
theorem keepMin_len : ∀ {l out : List (List Int)},(Sp.keepMin out l).length ≤ out.length + l.length
  | [],out => by simp [Sp.keepMin]
  | y :: l,out => by
    unfold Sp.keepMin
    split
    · have := keepMin_len (l := l) (out := out); simp; omega
    · have := keepMin_len (l := l) (out := out ++ [y]); simp at this ⊢; omega
theorem IsB.ok {rows : List (List Int)} {n : Nat} {bs : List (List Int)} (h : IsB rows n bs) : ∀ x ∈ bs,okV x := by
  obtain ⟨l,hp,-,rfl⟩ := h
  exact keepMin_sub (by simp) fun x hx => movesL_ok (hp.mem_iff.1 hx)
theorem IsB.len {rows : List (List Int)} {n : Nat} {bs : List (List Int)} (hn : n ≤ 4) (h : IsB rows n bs) : bs.length ≤ 1185921 := by
  obtain ⟨l,hp,-,rfl⟩ := h
  have h1 := keepMin_len (l := l) (out := [])
  have h2 := Sp.movesL_len (rows := rows) hn
  have h3 := hp.length_eq
  simp at h1; omega
theorem s55f (rows : List (List Int)) (n : Nat) (hn : n ≤ 4) (h0 : rows ≠ []) (hr : Sp.Rows4 rows) : Abs.Spec Try.prog 55 [matV rows n] [] fun v H' => H' = [] ∧ ∃ bs,IsB rows n bs ∧ v = .sl false false (mV bs) :=
  (s55 rows n hn h0 hr).wk fun v H1 ⟨l,hp,hs,hv,hH⟩ => by
    subst hv hH
    have hB : IsB rows n (Sp.keepMin [] l) := ⟨l,hp,hs,rfl⟩
    exact ⟨[],.sl false false (mV (Sp.keepMin [] l)),[],Wk.nil ⟨vle_mV (fun v hv => (hB.ok v hv).1) rfl (by simp) rfl,trivial⟩,rfl,_,hB,rfl⟩
theorem mat_rows {a : List (List Int)} (h : Sp.mat a = true) : Sp.Rows4 (a.map Sp.pad) ∧ a.map Sp.pad ≠ [] ∧ 1 ≤ (a.getD 0 []).length ∧ (a.getD 0 []).length ≤ 4 := by
  obtain ⟨h1,h2,h3⟩ := Sp.mat_spec h
  have hb : ∀ r ∈ a,Sp.inB 2 r := by
    unfold Sp.mat at h
    simp only [Bool.and_eq_true,decide_eq_true_eq,List.all_eq_true,Sp.numbers] at h
    intro r hr x hx
    have := (h.2.2 r hr).2.2.2 x hx
    omega
  have hg : a.getD 0 [] ∈ a := by rw [List.getD_eq_getElem?_getD,List.getElem?_eq_getElem (by omega)]; exact List.getElem_mem _
  refine ⟨⟨fun r hr => ?_,fun r hr => ?_,by simpa using h2⟩,?_,(h3 _ hg).2.1,(h3 _ hg).2.2⟩
  · obtain ⟨x,hx,rfl⟩ := List.mem_map.1 hr
    exact Sp.pad_len (h3 x hx).2.2
  · obtain ⟨x,hx,rfl⟩ := List.mem_map.1 hr
    intro c hc
    rcases List.mem_append.1 hc with hc | hc
    · exact hb x hx c hc
    · rw [List.eq_of_mem_replicate hc]; omega
  · intro e; have := congrArg List.length e; simp at this; rw [this] at h1; simp at h1
def posV (x : List Int) : Bool := x.all fun a => decide (0 ≤ a)
theorem s57 (x : List Int) (hx : x.length = 4) : Abs.Spec Try.prog 57 [vec x] [] fun v H' => H' = [] ∧ v = B (posV x) := by
  refine Abs.Spec.walk mixed fn57 nn57 t57 q57 nt57 (by simp) ?_
  obtain ⟨p,r,rfl⟩ : ∃ p r,x = p :: r := by
    match x,hx with
    | p :: r,_ => exact ⟨p,r,rfl⟩
  have hxl : (mI (p :: r)).length = 4 := by rw [mI_length,hx]
  simp only [w57,hxl,vec_eq,Nat.sub_zero,go_sem,Nat.reduceEqDiff,Nat.reduceAdd,Nat.reduceLT,Nat.reduceLeDiff,reduceIte,reduceCtorEq]
  refine ⟨allI_cell _,⟨Int.le_refl 0,Int.le_refl _,.inl trivial⟩,?_⟩
  refine CallK.pure (CallV.of_spec (first := []) (cap := []) (Spec.lend (args' := [.sl false false (mI (p :: r))]) (s77 false false p r (by rw [hx]; decide)) rfl ⟨vle_mI rfl (by simp) hx.symm (List.take_of_length_le (by omega)),trivial⟩)) ?_
  simp only [go_sem,Nat.reduceEqDiff,Nat.reduceAdd,Nat.reduceLT,Nat.reduceLeDiff,reduceIte,reduceCtorEq]
  refine leaf (B _) rfl ⟨rfl,?_⟩
  congr 1
  rw [Bool.eq_iff_iff,decide_eq_true_eq]
  have := Sp.min_fold 0 r p
  unfold posV
  rw [List.all_cons,Bool.and_eq_true,decide_eq_true_eq,List.all_eq_true]
  simp only [decide_eq_true_eq]
  exact this
end Go.Proofs.Ytlonaefihjdkpaa
