/- Contracts: how lists compare,how they are sorted (swaps); Contracts: nets and their circles; Contracts: the circles of a net,in order. -/
import Derived.Test.YtlonaefihjdkpaaLQ
import Derived.Test.YtlonaefihjdkpaaUQS
import Derived.Test.YtlonaefihjdkpaaUCE
import Derived.Test.YtlonaefihjdkpaaUBA
import Derived.Test.YtlonaefihjdkpaaUQF
import Derived.Test.YtlonaefihjdkpaaPO
import Derived.Test.YtlonaefihjdkpaaVA
namespace Go.Proofs.Ytlonaefihjdkpaa
open Go.Abs AVal
set_option linter.unusedSimpArgs false
attribute [local go_sem] W_skip W_keep KQ_canon canon Fr.norm W_seq W_block W_scope W_exit W_ret W_ops W_draw KQ_nil KQ_norm_seq KQ_exit_seq KQ_ret_seq KQ_norm_block KQ_ret_block KQ_exit_block KQ_exit_loop KQ_ret_loop O_nil O_cons S_call S_mv SE_mv SD_mv S_pick SE_pick SD_pick S_bin SE_bin SD_bin S_eqb SE_eqb SD_eqb S_eqv SE_eqv SD_eqv S_eqnil SE_eqnil SD_eqnil S_un SE_un SD_un S_conv SE_conv SD_conv S_mkfn SE_mkfn SD_mkfn S_load SE_load SD_load S_nilck SE_nilck SD_nilck S_slS SE_slS SD_slS S_slP SE_slP SD_slP S_fldA SE_fldA SD_fldA S_fld SE_fld SD_fld S_ixS SE_ixS SD_ixS S_ixP SE_ixP SD_ixP S_ixV SE_ixV SD_ixV S_ixStr SE_ixStr SD_ixStr S_ext SE_ext SD_ext S_len SE_len SD_len S_lenStr SE_lenStr SD_lenStr S_lenc SE_lenc SD_lenc S_mn SE_mn SD_mn S_mx SE_mx SD_mx S_build SE_build SD_build S_alloc SD_alloc S_box SD_box S_bslice SD_bslice S_mksl SD_mksl S_store SD_store S_append SD_append S_copy SD_copy S_clr SD_clr S_mlen SE_mlen SD_mlen S_mget SE_mget SD_mget S_mval SE_mval SD_mval S_mentry SE_mentry SD_mentry S_mkmap SD_mkmap S_mset SD_mset S_mrange SD_mrange S_mnext mlenA mgetA mvalA mentryA msetA mrangeA cells_mp isCell_mp cellsOk_mp aq_some aa_some al_some alA_some aqd_some aad_some ald_some ape_some D_done D_both D_early D_step SE_call SD_call IOpd.ev Fr.get Fr.put Fr.putd entryFr pickA binA binI isSh shI eqbA eqvA ints ints_mI Option.map_some eqnilA unA convA loadA nilckA intA slSA slPA fldAA fldVA ixSA ixPA ixVA ixStrA extA lenA lenStrA mnA mxA AVal.fits fillA fillOk buildA opa srcA appA stoA copA clrA rdFree zeros List.length_nil List.length_cons List.length_map List.map_cons List.map_nil Option.map_some Option.map_none if_true if_false ite_true ite_false true_and and_true and_self implies_true forall_const true_implies Bool.false_eq_true Bool.not_true Bool.not_false decide_eq_true_eq decide_eq_false_iff_not eq_self List.getElem?_cons_zero List.getElem?_cons_succ List.getElem?_nil List.set_cons_zero List.set_cons_succ List.nil_append List.cons_append List.append_nil List.replicate_zero List.replicate_succ Nat.zero_add false_implies rng_lt rng_end rng_get cells_I cells_B cells_sl cut_one Int.toNat_natCast Int.natCast_nonneg List.headD_cons Int.lt_irrefl not_false_eq_true decide_false decide_true mI_length mI_cells mI_sz mI_isCell mI_mid mI_append mI_take mI_drop cells_val cells_own cells_agg isCell_I isCell_B isCell_nil isCell_sl isCell_own isCell_ptr isCell_fn isCell_rp isCell_yld cellsOk_I cellsOk_B cellsOk_nil cellsOk_sl cellsOk_own cellsOk_ptr cellsOk_fn cellsOk_rp cellsOk_yld cellsOk_agg cells_nil cells_ptr cells_fn cells_rp List.all_cons List.all_nil Bool.and_true Nat.mul_one Nat.zero_mul Nat.one_mul List.take_zero List.take_nil List.drop_nil List.drop_zero List.not_mem_nil Nat.le_refl Nat.zero_le mS_length mS_cells mS_sz mS_isCell mS_mid mS_append mS_take mS_drop cells_sI isCell_sI cellsOk_sI sI_eq succ_le_self' List.take_succ_cons List.drop_succ_cons List.take_length beq_self_eq_true List.mem_cons or_false forall_eq mI_put mI_rep O_guard' D_earlyG' D_stepG' W_cond' G_tt G_tf G_ft G_ff GE_tt GE_tf GE_ft GE_ff GS_tt GS_tf GS_ft GS_ff G_u GE_u GS_u IC_t IC_f xft xff xtt xtf z00 z20 z22 z02 zz tn0
theorem s108 (x : Int) : Abs.Spec Try.prog 108 [I x] [] fun v H' => H' = [] ∧ v = B false := by
  refine Abs.Spec.walk mixed fn108 nn108 t108 q108 nt108 (by simp) ?_
  simp only [w108,bne_self_eq_false,go_sem,Nat.reduceEqDiff,Nat.reduceAdd,Nat.reduceLT,Nat.reduceLeDiff,reduceIte,reduceCtorEq]
  exact leaf (B _) rfl ⟨rfl,rfl⟩
def cmp1 (x y : Int) : Int := if x < y then -1 else if x > y then 1 else 0
theorem s81 (x y : Int) : Abs.Spec Try.prog 81 [I x,I y] [] fun v H' => H' = [] ∧ v = I (cmp1 x y) := by
  refine Abs.Spec.walk mixed fn81 nn81 t81 q81 nt81 (by simp) ?_
  simp only [w81,go_sem,Nat.reduceEqDiff,Nat.reduceAdd,Nat.reduceLT,Nat.reduceLeDiff,reduceIte,reduceCtorEq]
  refine CallK.by (CallV.of_spec (s108 x)) fun v H' ⟨h1,h2⟩ => ?_
  subst h1 h2
  simp only [go_sem,Nat.reduceEqDiff,Nat.reduceAdd,Nat.reduceLT,Nat.reduceLeDiff,reduceIte,reduceCtorEq]
  refine CallK.by (CallV.of_spec (s108 y)) fun v H' ⟨h1,h2⟩ => ?_
  subst h1 h2
  simp only [go_sem,Nat.reduceEqDiff,Nat.reduceAdd,Nat.reduceLT,Nat.reduceLeDiff,reduceIte,reduceCtorEq]
  refine IC.splitP (fun h => ?_) fun h => ?_
  · simp only [go_sem,Nat.reduceEqDiff,Nat.reduceAdd,Nat.reduceLT,Nat.reduceLeDiff,reduceIte,reduceCtorEq]
    exact leaf (I _) rfl ⟨rfl,by rw [cmp1,if_pos h]⟩
  · simp only [go_sem,Nat.reduceEqDiff,Nat.reduceAdd,Nat.reduceLT,Nat.reduceLeDiff,reduceIte,reduceCtorEq]
    refine IC.splitP (fun h2 => ?_) fun h2 => ?_
    · simp only [go_sem,Nat.reduceEqDiff,Nat.reduceAdd,Nat.reduceLT,Nat.reduceLeDiff,reduceIte,reduceCtorEq]
      exact leaf (I _) rfl ⟨rfl,by rw [cmp1,if_neg h,if_pos h2]⟩
    · simp only [go_sem,Nat.reduceEqDiff,Nat.reduceAdd,Nat.reduceLT,Nat.reduceLeDiff,reduceIte,reduceCtorEq]
      exact leaf (I _) rfl ⟨rfl,by rw [cmp1,if_neg h,if_neg h2]⟩
theorem s52 (nn t nn' t' : Bool) (a b : List Int) (ha : a.length < 9223372036854775808) (hb : b.length < 9223372036854775808) : Abs.Spec Try.prog 52 [.sl nn t (mI a),.sl nn' t' (mI b)] [] fun v H' => H' = [] ∧ v = I (Sp.cmpL a b) := by
  refine Abs.Spec.walk mixed fn52 nn52 t52 q52 nt52 (by simp) ?_
  simp only [w52,go_sem,Nat.reduceEqDiff,Nat.reduceAdd,Nat.reduceLT,Nat.reduceLeDiff,reduceIte,reduceCtorEq]
  refine W_loop (fun q : { i : Nat // i ≤ a.length ∧ i ≤ b.length ∧ Sp.cmpL (a.drop i) (b.drop i) = Sp.cmpL a b } => ([(0,.sl nn t (mI a)),(1,.sl nn' t' (mI b)),(9,.sl nn t (mI a)),(10,I a.length),(11,I q.1)],[])) (fun q => a.length - q.1)
    ⟨0,by omega,by omega,rfl⟩ [] (Wk.nil (by simp [fle,vle,Fr.get,mI_bnd])) ?_
  rintro ⟨i,hi,hib,hinv⟩
  dsimp only
  by_cases hil : i < a.length
  · have hz : decide ((i : Int) < a.length) = true := decide_eq_true (by omega)
    have hil' : (i : Int) < a.length := by omega
    have hwk : IntKind.i64.wrap ((i : Int) + 1) = ((i + 1 : Nat) : Int) := by rw [wrap64 (by omega) (by omega)]; rfl
    obtain ⟨x,hx⟩ : ∃ x,a.getD i 0 = x := ⟨_,rfl⟩
    have hx' : a[i] = x := by rw [← hx,List.getD_eq_getElem?_getD,List.getElem?_eq_getElem hil]; rfl
    rw [List.drop_eq_getElem_cons hil,hx'] at hinv
    by_cases hbl : i < b.length
    · have hz2 : decide ((i : Int) ≥ b.length) = false := decide_eq_false (by omega)
      have hbl' : (i : Int) < b.length := by omega
      obtain ⟨y,hy⟩ : ∃ y,b.getD i 0 = y := ⟨_,rfl⟩
      have hy' : b[i] = y := by rw [← hy,List.getD_eq_getElem?_getD,List.getElem?_eq_getElem hbl]; rfl
      rw [List.drop_eq_getElem_cons hbl,hy',Sp.cmpL] at hinv
      simp only [w52L0,hz,hil',mI_get,hil,hx,mI_hd,hz2,hbl,hbl',hy,go_sem,Nat.reduceEqDiff,Nat.reduceAdd,Nat.reduceLT,Nat.reduceLeDiff,reduceIte,reduceCtorEq]
      refine CallK.pure (liftV (s81 x y) (by simp [bndL,AVal.bnd]) rfl _) ?_
      have c1 : ((-1 : Int) != 0) = true := rfl
      have c2 : ((1 : Int) != 0) = true := rfl
      by_cases h1 : x < y
      · rw [if_pos h1] at hinv
        rw [cmp1,if_pos h1]
        simp only [c1,go_sem,Nat.reduceEqDiff,Nat.reduceAdd,Nat.reduceLT,Nat.reduceLeDiff,reduceIte,reduceCtorEq]
        exact leaf (I _) rfl ⟨rfl,by rw [hinv]⟩
      · rw [if_neg h1] at hinv
        by_cases h2 : x > y
        · rw [if_pos h2] at hinv
          rw [cmp1,if_neg h1,if_pos h2]
          simp only [c2,go_sem,Nat.reduceEqDiff,Nat.reduceAdd,Nat.reduceLT,Nat.reduceLeDiff,reduceIte,reduceCtorEq]
          exact leaf (I _) rfl ⟨rfl,by rw [hinv]⟩
        · rw [if_neg h2] at hinv
          rw [cmp1,if_neg h1,if_neg h2]
          simp only [z00,hwk,go_sem,Nat.reduceEqDiff,Nat.reduceAdd,Nat.reduceLT,Nat.reduceLeDiff,reduceIte,reduceCtorEq]
          refine round0 rfl ⟨i + 1,by omega,by omega,hinv⟩ (by dsimp only; omega) rfl ?_
          simp [fle,vle,Fr.get,mI_bnd]
    · have hz2 : decide ((i : Int) ≥ b.length) = true := decide_eq_true (by omega)
      rw [List.drop_of_length_le (show b.length ≤ i by omega),Sp.cmpL] at hinv
      simp only [w52L0,hz,hil',mI_get,hil,hx,mI_hd,hz2,go_sem,Nat.reduceEqDiff,Nat.reduceAdd,Nat.reduceLT,Nat.reduceLeDiff,reduceIte,reduceCtorEq]
      exact leaf (I _) rfl ⟨rfl,by rw [hinv]⟩
  · have hz : decide ((i : Int) < a.length) = false := decide_eq_false (by omega)
    obtain rfl : i = a.length := by omega
    rw [List.drop_length] at hinv
    simp only [w52L0,hz,w52T1,go_sem,Nat.reduceEqDiff,Nat.reduceAdd,Nat.reduceLT,Nat.reduceLeDiff,reduceIte,reduceCtorEq]
    refine IC.splitP (fun h => ?_) fun h => ?_
    · obtain ⟨y,r,hr⟩ : ∃ y r,b.drop a.length = y :: r := by
        cases hd : b.drop a.length with
        | nil => have := List.length_drop (l := b) (i := a.length); rw [hd] at this; simp at this; omega
        | cons y r => exact ⟨y,r,rfl⟩
      rw [hr,Sp.cmpL] at hinv
      simp only [go_sem,Nat.reduceEqDiff,Nat.reduceAdd,Nat.reduceLT,Nat.reduceLeDiff,reduceIte,reduceCtorEq]
      exact leaf (I _) rfl ⟨rfl,by rw [hinv]⟩
    · rw [List.drop_of_length_le (by omega),Sp.cmpL] at hinv
      simp only [go_sem,Nat.reduceEqDiff,Nat.reduceAdd,Nat.reduceLT,Nat.reduceLeDiff,reduceIte,reduceCtorEq]
      exact leaf (I _) rfl ⟨rfl,by rw [hinv]⟩
theorem sortRows {H : AHeap} {i n lb : Nat} {xs : List (List Int)} (hx : ∀ x ∈ xs,x.length < 9223372036854775808) (hn : n = xs.length) (hi : H[i]? = some (.cells (mS xs))) (hsz : n < 4611686018427387904) :
    CallV Try.prog (.fn (.func 51) [] []) [.own i 0 n lb 1,.fn (.func 52) [] []] H fun v' H' => v' = .tup [] ∧ H' = H.set i (.cells (mS (Sp.sortV xs))) := by
  have hk := CallV.sortFunc sortLay (α := { l : List Int // l.length < 9223372036854775808 }) (fun l => sI l.1) (fun E x v h => by
    rcases h.inv_sl with ⟨-,-,rfl⟩ | ⟨b,off,cap,k,rfl,-⟩ | ⟨-,-,a,rfl⟩ <;> rfl) (fun H x => by simp [vle,sI,mI_bnd]) (fun a b => Sp.cmpL a.1 b.1) (Sp.swoL fun a : { l : List Int // l.length < 9223372036854775808 } => a.1) (g := 52)
    (fun x y => s52 false false false false x.1 y.1 x.2 y.2) (H := H) (i := i) (n := n) (lb := lb) (xs := xs.attach.map fun x => ⟨x.1,hx x.1 x.2⟩) (rest := []) (by simpa using hn) (by
      rw [hi,List.append_nil,List.map_map]
      congr 2
      show xs.map sI = _
      conv => lhs; rw [← List.attach_map_subtype_val xs,List.map_map]
      rfl) hsz
  refine hk.mono fun v' H' ⟨hv,ys,hp,hs,hH⟩ => ⟨hv,?_⟩
  have e : ys.map (·.1) = Sp.sortV xs := by
    refine Sp.asc_unique ?_ (Sp.sortV_asc xs) ?_
    · rw [List.pairwise_map]
      refine hs.imp fun {a b} h => ?_
      have := Sp.cmpL_anti b.1 a.1
      simp only [ltOf,decide_eq_false_iff_not] at h
      omega
    · refine ((hp.map (·.1)).trans ?_).trans (Sp.sortV_perm xs).symm
      rw [List.map_map]
      have : (xs.attach.map ((fun x : { l : List Int // l.length < 9223372036854775808 } => x.1) ∘ fun x => ⟨x.1,hx x.1 x.2⟩)) = xs := List.attach_map_subtype_val xs
      rw [this]
  rw [hH,← e,List.append_nil]
  show _ = H.set i (.cells ((ys.map (·.1)).map sI))
  rw [List.map_map]; rfl
open Go.Abs AVal
theorem vleL_snoc {H : AHeap} {ρ : List (Option Nat)} {img : List Nat} {d : Nat} {u u' : AVal} (h : vle H ρ img (d + 1) u u') : ∀ xs : List (List Int),vle.vleL H ρ img (d + 1) (mS xs ++ [u]) (mS xs ++ [u'])
  | [] => ⟨h,trivial⟩
  | x :: xs => ⟨⟨mI_bnd,fun h => h,fun h => h,rfl⟩,vleL_snoc h xs⟩
def hp (g : List Int) (i j : Nat) : Bool := Sp.has (g.getD i 0) j
def netAt (g : List Int) (i : Nat) : Bool := decide (0 ≤ g.getD i 0) && (decide (g.getD i 0 < (2 ^ g.length : Nat)) && !hp g i i)
def netV (g : List Int) : Bool := decide (1 ≤ g.length) && (decide (g.length ≤ 6) && (List.range g.length).all (netAt g))
theorem s50 (nn t : Bool) (g : List Int) (i j : Nat) (hi : i < g.length) : Abs.Spec Try.prog 50 [.sl nn t (mI g),I i,I j] [] fun v H' => H' = [] ∧ v = B (hp g i j) := by
  refine Abs.Spec.walk mixed fn50 nn50 t50 q50 nt50 (by simp) ?_
  have d : (i : Int) < g.length := by omega
  simp only [w50,mI_get,hi,d,go_sem,Nat.reduceEqDiff,Nat.reduceAdd,Nat.reduceLT,Nat.reduceLeDiff,reduceIte,reduceCtorEq]
  repeat (refine ⟨by omega,?_⟩)
  exact leaf (B _) rfl ⟨rfl,rfl⟩
theorem range_all_snoc {p : Nat → Bool} {k : Nat} : (List.range (k + 1)).all p = ((List.range k).all p && p k) := by rw [List.range_succ,List.all_append]; simp
theorem all_bad {p : Nat → Bool} {n k : Nat} (hk : k < n) (h : p k = false) : (List.range n).all p = false := by
  rw [List.all_eq_false]; exact ⟨k,List.mem_range.2 hk,by simp [h]⟩
set_option maxHeartbeats 1000000 in
theorem s25 (nn t : Bool) (g : List Int) (hl : g.length < 9223372036854775808) : Abs.Spec Try.prog 25 [.sl nn t (mI g)] [] fun v H' => H' = [] ∧ v = B (netV g) := by
  refine Abs.Spec.walk mixed fn25 nn25 t25 q25 nt25 (by simp) ?_
  by_cases h1 : g.length < 1
  · have d1 : decide ((g.length : Int) < 1) = true := decide_eq_true (by omega)
    simp only [w25,d1,go_sem,Nat.reduceEqDiff,Nat.reduceAdd,Nat.reduceLT,Nat.reduceLeDiff,reduceIte,reduceCtorEq]
    exact leaf (B false) rfl ⟨rfl,by unfold netV; rw [decide_eq_false (by omega)]; rfl⟩
  have d1 : decide ((g.length : Int) < 1) = false := decide_eq_false (by omega)
  by_cases h6 : g.length > 6
  · have d2 : decide ((g.length : Int) > 6) = true := decide_eq_true (by omega)
    simp only [w25,d1,d2,go_sem,Nat.reduceEqDiff,Nat.reduceAdd,Nat.reduceLT,Nat.reduceLeDiff,reduceIte,reduceCtorEq]
    exact leaf (B false) rfl ⟨rfl,by unfold netV; rw [decide_eq_false (show ¬ g.length ≤ 6 by omega)]; simp⟩
  have d2 : decide ((g.length : Int) > 6) = false := decide_eq_false (by omega)
  obtain ⟨p1,p2,p3⟩ := two_pow6 (show g.length ≤ 6 by omega)
  have hV : netV g = (List.range g.length).all (netAt g) := by unfold netV; rw [decide_eq_true (by omega),decide_eq_true (by omega)]; rfl
  simp only [w25,d1,d2,w25T0,go_sem,Nat.reduceEqDiff,Nat.reduceAdd,Nat.reduceLT,Nat.reduceLeDiff,reduceIte,reduceCtorEq]
  refine W_loop (fun q : { i : Nat // i ≤ g.length ∧ (List.range i).all (netAt g) = true } => ([(3,I g.length),(14,.sl nn t (mI g)),(15,I g.length),(16,I q.1)],[])) (fun q => g.length - q.1) ⟨0,by omega,rfl⟩ [] (Wk.nil (by simp [fle,vle,Fr.get,mI_bnd])) ?_
  rintro ⟨i,hi,hinv⟩
  dsimp only
  by_cases hil : i < g.length
  · have d3 : (i : Int) < g.length := by omega
    have hwk : IntKind.i64.wrap ((i : Int) + 1) = ((i + 1 : Nat) : Int) := by rw [wrap64 (by omega) (by omega)]; rfl
    obtain ⟨x,hx⟩ : ∃ x,g.getD i 0 = x := ⟨_,rfl⟩
    have hat : netAt g i = (decide (0 ≤ x) && (decide (x < (2 ^ g.length : Nat)) && !Sp.has x i)) := by unfold netAt hp; rw [hx]
    have bad : netAt g i = false → netV g = false := fun h => by rw [hV]; exact all_bad hil h
    by_cases x0 : x < 0
    · have e1 : decide (x < 0) = true := decide_eq_true x0
      simp only [w25L1,w25T2,d3,decide_true,mI_get,hil,hx,e1,go_sem,Nat.reduceEqDiff,Nat.reduceAdd,Nat.reduceLT,Nat.reduceLeDiff,reduceIte,reduceCtorEq]
      exact leaf (B false) rfl ⟨rfl,by rw [bad (by rw [hat,decide_eq_false (by omega)]; rfl)]⟩
    have e1 : decide (x < 0) = false := decide_eq_false x0
    by_cases x1 : x ≥ (2 ^ g.length : Nat)
    · have e2 : decide (x ≥ ((2 ^ g.length : Nat) : Int)) = true := decide_eq_true x1
      simp only [w25L1,w25T2,d3,decide_true,mI_get,hil,hx,e1,p3,e2,go_sem,Nat.reduceEqDiff,Nat.reduceAdd,Nat.reduceLT,Nat.reduceLeDiff,reduceIte,reduceCtorEq]
      repeat (refine ⟨by omega,?_⟩)
      exact leaf (B false) rfl ⟨rfl,by rw [bad (by rw [hat,decide_eq_false (show ¬ x < _ by omega)]; simp)]⟩
    have e2 : decide (x ≥ ((2 ^ g.length : Nat) : Int)) = false := decide_eq_false x1
    have eb : (bitsI .and .i64 (x.fdiv (2 ^ min i 64)) 1 == 1) = Sp.has x i := rfl
    cases hh : Sp.has x i with
    | true =>
      rw [hh] at eb
      simp only [w25L1,w25T2,d3,decide_true,mI_get,hil,hx,e1,p3,e2,eb,go_sem,Nat.reduceEqDiff,Nat.reduceAdd,Nat.reduceLT,Nat.reduceLeDiff,reduceIte,reduceCtorEq]
      repeat (refine ⟨by omega,?_⟩)
      exact leaf (B false) rfl ⟨rfl,by rw [bad (by rw [hat,hh]; simp)]⟩
    | false =>
      rw [hh] at eb
      simp only [w25L1,w25T2,d3,decide_true,mI_get,hil,hx,e1,p3,e2,eb,w25T3,hwk,go_sem,Nat.reduceEqDiff,Nat.reduceAdd,Nat.reduceLT,Nat.reduceLeDiff,reduceIte,reduceCtorEq]
      repeat (refine ⟨by omega,?_⟩)
      exact round0 rfl ⟨i + 1,hil,by rw [range_all_snoc,hinv,hat,hh,decide_eq_true (by omega),decide_eq_true (by omega)]; rfl⟩ (by dsimp only; omega) rfl (by simp [fle,vle,Fr.get,mI_bnd])
  · have d3 : ¬ (i : Int) < g.length := by omega
    obtain rfl : i = g.length := by omega
    simp only [w25L1,d3,decide_false,w25T4,go_sem,Nat.reduceEqDiff,Nat.reduceAdd,Nat.reduceLT,Nat.reduceLeDiff,reduceIte,reduceCtorEq]
    exact leaf (B true) rfl ⟨rfl,by rw [hV,hinv]⟩
open Go.Abs AVal
def g3 (g : List Int) (a b k : Nat) : List (List Int) := ((List.range k).filter fun c => decide (a < c) && (decide (c ≠ b) && (hp g b c && hp g c a))).map fun c : Nat => [(a : Int),(b : Int),(c : Int)]
def gB (g : List Int) (a b : Nat) : List (List Int) := if decide (a < b) && hp g a b then (if hp g b a then [[(a : Int),b]] else []) ++ g3 g a b g.length else []
def g2 (g : List Int) (a k : Nat) : List (List Int) := (List.range k).flatMap (gB g a)
def g1 (g : List Int) (k : Nat) : List (List Int) := (List.range k).flatMap fun a => g2 g a g.length
def circs (g : List Int) : List (List Int) := Sp.sortV (g1 g g.length)
theorem g3_snoc (g : List Int) (a b k : Nat) : g3 g a b (k + 1) = g3 g a b k ++ if decide (a < k) && (decide (k ≠ b) && (hp g b k && hp g k a)) then [[(a : Int),b,k]] else [] := by
  unfold g3; rw [List.range_succ,List.filter_append,List.map_append,List.filter_cons,List.filter_nil]
  split <;> rfl
theorem g3_low (g : List Int) (a b : Nat) : g3 g a b (a + 1) = [] := by
  unfold g3
  rw [List.map_eq_nil_iff,List.filter_eq_nil_iff]
  intro c hc h
  have := List.mem_range.1 hc
  simp at h; omega
theorem g2_snoc (g : List Int) (a k : Nat) : g2 g a (k + 1) = g2 g a k ++ gB g a k := by unfold g2; rw [List.range_succ,List.flatMap_append]; simp
theorem g2_low (g : List Int) (a : Nat) : g2 g a (a + 1) = [] := by
  unfold g2
  rw [List.flatMap_eq_nil_iff]
  intro b hb
  have := List.mem_range.1 hb
  unfold gB
  rw [decide_eq_false (by omega)]; rfl
theorem g1_snoc (g : List Int) (k : Nat) : g1 g (k + 1) = g1 g k ++ g2 g k g.length := by unfold g1; rw [List.range_succ,List.flatMap_append]; simp
theorem g_len {n : Nat} {f : Nat → List (List Int)} {m : Nat} (h : ∀ a,(f a).length ≤ m) : ((List.range n).flatMap f).length ≤ n * m := by
  induction n with
  | zero => simp
  | succ n ih =>
    rw [List.range_succ,List.flatMap_append,List.length_append,Nat.succ_mul]
    have := h n
    simp only [List.flatMap_cons,List.flatMap_nil,List.append_nil]
    omega
theorem g3_len (g : List Int) (a b k : Nat) : (g3 g a b k).length ≤ k := by unfold g3; rw [List.length_map]; have := List.length_filter_le (fun c => decide (a < c) && (decide (c ≠ b) && (hp g b c && hp g c a))) (List.range k); simpa using this
theorem gB_len {g : List Int} (h6 : g.length ≤ 6) (a b : Nat) : (gB g a b).length ≤ 7 := by
  unfold gB
  split
  · have := g3_len g a b g.length
    rw [List.length_append]
    split <;> simp <;> omega
  · simp
theorem g2_len {g : List Int} (h6 : g.length ≤ 6) (a k : Nat) : (g2 g a k).length ≤ k * 7 := g_len (gB_len h6 a)
theorem g1_len {g : List Int} (h6 : g.length ≤ 6) (k : Nat) : (g1 g k).length ≤ k * 42 := g_len fun a => by have := g2_len h6 a g.length; omega
theorem g3_mem {g : List Int} {a b k : Nat} {x : List Int} : x ∈ g3 g a b k ↔ ∃ c,c < k ∧ a < c ∧ c ≠ b ∧ hp g b c = true ∧ hp g c a = true ∧ x = [(a : Int),b,c] := by
  unfold g3
  rw [List.mem_map]
  constructor
  · rintro ⟨c,hc,rfl⟩
    rw [List.mem_filter] at hc
    obtain ⟨h1,h2⟩ := hc
    simp at h2
    exact ⟨c,List.mem_range.1 h1,h2.1,h2.2.1,h2.2.2.1,h2.2.2.2,rfl⟩
  · rintro ⟨c,h1,h2,h3,h4,h5,rfl⟩
    exact ⟨c,List.mem_filter.2 ⟨List.mem_range.2 h1,by simp [h2,h3,h4,h5]⟩,rfl⟩
def Cir (g : List Int) (x : List Int) : Prop :=
  (∃ a b : Nat,a < b ∧ b < g.length ∧ hp g a b = true ∧ hp g b a = true ∧ x = [(a : Int),b]) ∨
  ∃ a b c : Nat,a < b ∧ b < g.length ∧ a < c ∧ c < g.length ∧ c ≠ b ∧ hp g a b = true ∧ hp g b c = true ∧ hp g c a = true ∧ x = [(a : Int),b,c]
theorem circs_mem {g : List Int} {x : List Int} : x ∈ circs g ↔ Cir g x := by
  unfold circs
  rw [(Sp.sortV_perm _).mem_iff]
  unfold g1 g2
  simp only [List.mem_flatMap,List.mem_range]
  constructor
  · rintro ⟨a,ha,b,hb,hx⟩
    unfold gB at hx
    split at hx
    · rename_i h
      simp at h
      rcases List.mem_append.1 hx with hx | hx
      · split at hx
        · rename_i h2
          simp at hx
          exact .inl ⟨a,b,h.1,hb,h.2,h2,hx⟩
        · cases hx
      · obtain ⟨c,h1,h2,h3,h4,h5,rfl⟩ := g3_mem.1 hx
        exact .inr ⟨a,b,c,h.1,hb,h2,h1,h3,h.2,h4,h5,rfl⟩
    · cases hx
  · rintro (⟨a,b,h1,h2,h3,h4,rfl⟩ | ⟨a,b,c,h1,h2,h3,h4,h5,h6,h7,h8,rfl⟩)
    · refine ⟨a,by omega,b,h2,?_⟩
      unfold gB
      rw [if_pos (by simp [h1,h3]),if_pos h4]; simp
    · refine ⟨a,by omega,b,h2,?_⟩
      unfold gB
      rw [if_pos (by simp [h1,h6])]
      exact List.mem_append_right _ (g3_mem.2 ⟨c,h4,h3,h5,h7,h8,rfl⟩)
theorem Cir.len {g x : List Int} (h : Cir g x) : 2 ≤ x.length ∧ x.length ≤ 3 := by
  rcases h with ⟨a,b,-,-,-,-,rfl⟩ | ⟨a,b,c,-,-,-,-,-,-,-,-,rfl⟩ <;> simp
theorem circs_len {g : List Int} (h6 : g.length ≤ 6) : (circs g).length ≤ 252 := by
  unfold circs
  rw [(Sp.sortV_perm _).length_eq]
  have := g1_len h6 g.length
  omega
set_option maxRecDepth 20000 in
set_option maxHeartbeats 4000000 in
theorem tail71 {Q : QT} {K : List Kont} {g : List Int} (h6 : g.length ≤ 6) {a b : Nat} (hal : a < g.length) (hbl : b < g.length) {P : List (List Int)} (hP : P.length ≤ 100000) {fr : Fr} {H : AHeap} {ρ : List (Option Nat)}
    (hw : Wk 0 [] ρ fr H [(0,.sl false false (mI g)),(3,.own 0 0 P.length P.length 1),(4,I a),(5,I b),(8,I g.length),(9,I a)] [.cells (mS P)])
    (hk : KQ ⟨Try.prog,0,69,true⟩ Q .norm K [(40,B false),(39,I g.length),(38,.sl false false (mI g)),(37,I g.length),(0,.sl false false (mI g)),(3,.own 0 0 (P ++ g3 g a b g.length).length (P ++ g3 g a b g.length).length 1),(4,I a),(5,I b),(6,I g.length),(8,I g.length),(9,I a)] [.cells (mS (P ++ g3 g a b g.length))] []) :
    W ⟨Try.prog,0,69,true⟩ Q c26T5 K fr H [] := by
  have e87 : ∀ (i j : Nat),i < g.length → ∀ H,CallV Try.prog (.fn (.func 50) [] []) [.sl false false (mI g),I i,I j] H fun v H' => v = B (hp g i j) ∧ H' = H := fun i j hi H => liftV (s50 false false g i j hi) (by simp [bndL,AVal.bnd,mI_bnd]) rfl H
  have hwk : ∀ k : Nat,k ≤ 6 → IntKind.i64.wrap ((k : Int) + 1) = ((k + 1 : Nat) : Int) := fun k hk => by rw [wrap64 (by omega) (by omega)]; rfl
  rw [w26T5]
  refine W_view ρ _ _ hw ?_
  have ha1 := hwk a (by omega)
  simp only [ha1,go_sem,Nat.reduceEqDiff,Nat.reduceAdd,Nat.reduceLT,Nat.reduceLeDiff,reduceIte,reduceCtorEq]
  refine W_loop (fun q : { c : Nat // a + 1 ≤ c ∧ c ≤ g.length } => ([(0,.sl false false (mI g)),(3,.own 0 0 (P ++ g3 g a b q.1).length (P ++ g3 g a b q.1).length 1),(4,I a),(5,I b),(6,I q.1),(8,I g.length),(9,I a)],[.cells (mS (P ++ g3 g a b q.1))])) (fun q => g.length - q.1) ⟨a + 1,by omega⟩ [some 0] (Wk.mk0 rfl (by simp [imgs,Blk.alive]) (by simp [hle,csle,g3_low,mS_bnd]) (by simp [fle,vle,Fr.get,mI_bnd,g3_low])) ?_
  rintro ⟨c,hac,hc⟩
  dsimp only
  by_cases hcl : c < g.length
  rotate_left
  · have d1 : ¬ (c : Int) < g.length := by omega
    obtain rfl : c = g.length := by omega
    simp only [w26L6,d1,decide_false,go_sem,Nat.reduceEqDiff,Nat.reduceAdd,Nat.reduceLT,Nat.reduceLeDiff,reduceIte,reduceCtorEq]
    exact hk
  have d1 : (c : Int) < g.length := by omega
  have hc1 := hwk c (by omega)
  have hgl := g3_len g a b c
  have stay : (decide (a < c) && (decide (c ≠ b) && (hp g b c && hp g c a))) = false → g3 g a b (c + 1) = g3 g a b c := fun h => by rw [g3_snoc,h]; simp
  by_cases hcb : c = b
  · have e1 : ((c : Int) != (b : Int)) = false := by rw [hcb]; exact bne_self_eq_false _
    have st := stay (by simp [hcb])
    simp only [w26L6,d1,decide_true,w26T7,e1,w26T8,hc1,go_sem,Nat.reduceEqDiff,Nat.reduceAdd,Nat.reduceLT,Nat.reduceLeDiff,reduceIte,reduceCtorEq]
    exact round1 rfl ⟨c + 1,by omega,hcl⟩ [some 0] (by dsimp only; omega) (Wk.mk0 rfl (by simp [imgs,Blk.alive]) (by simp [hle,csle,st,mS_bnd]) (by simp [fle,vle,Fr.get,mI_bnd,st]))
  have e1 : ((c : Int) != (b : Int)) = true := by rw [bne_iff_ne]; omega
  simp only [w26L6,d1,decide_true,w26T7,e1,go_sem,Nat.reduceEqDiff,Nat.reduceAdd,Nat.reduceLT,Nat.reduceLeDiff,reduceIte,reduceCtorEq]
  refine CallK.pure (e87 b c hbl _) ?_
  cases hbc : hp g b c with
  | false =>
    have st := stay (by simp [hbc])
    simp only [w26T8,hc1,go_sem,Nat.reduceEqDiff,Nat.reduceAdd,Nat.reduceLT,Nat.reduceLeDiff,reduceIte,reduceCtorEq]
    exact round1 rfl ⟨c + 1,by omega,hcl⟩ [some 0] (by dsimp only; omega) (Wk.mk0 rfl (by simp [imgs,Blk.alive]) (by simp [hle,csle,st,mS_bnd]) (by simp [fle,vle,Fr.get,mI_bnd,st]))
  | true =>
  simp only [go_sem,Nat.reduceEqDiff,Nat.reduceAdd,Nat.reduceLT,Nat.reduceLeDiff,reduceIte,reduceCtorEq]
  refine CallK.pure (e87 c a hcl _) ?_
  cases hca : hp g c a with
  | false =>
    have st := stay (by simp [hca])
    simp only [w26T8,hc1,go_sem,Nat.reduceEqDiff,Nat.reduceAdd,Nat.reduceLT,Nat.reduceLeDiff,reduceIte,reduceCtorEq]
    exact round1 rfl ⟨c + 1,by omega,hcl⟩ [some 0] (by dsimp only; omega) (Wk.mk0 rfl (by simp [imgs,Blk.alive]) (by simp [hle,csle,st,mS_bnd]) (by simp [fle,vle,Fr.get,mI_bnd,st]))
  | true =>
  have st : g3 g a b (c + 1) = g3 g a b c ++ [[(a : Int),b,c]] := by rw [g3_snoc,hbc,hca,decide_eq_true (by omega),decide_eq_true hcb]; rfl
  simp only [w26T8,hc1,go_sem,Nat.reduceEqDiff,Nat.reduceAdd,Nat.reduceLT,Nat.reduceLeDiff,reduceIte,reduceCtorEq]
  have hlen : (P ++ g3 g a b (c + 1)).length = (P ++ g3 g a b c).length + 1 := by rw [st,← List.append_assoc,List.length_append (bs := [_])]; rfl
  refine ⟨by rw [List.length_append]; omega,round1 rfl ⟨c + 1,by omega,hcl⟩ [some 3] (by dsimp only; omega) (Wk.mk0 rfl (by simp [imgs,Blk.alive]) ⟨.inr ?_,trivial⟩ (by simp [fle,vle,Fr.get,mI_bnd,hlen]))⟩
  rw [st,← List.append_assoc,← mS_append (xs := P ++ g3 g a b c)]
  refine vleL_snoc ?_ _
  exact vle_mI (xs := [(a : Int),b,c]) (cs := [I a,I b,I c]) rfl (by simp [imgs,Blk.alive]) rfl rfl
set_option maxRecDepth 20000 in
set_option maxHeartbeats 4000000 in
theorem s26 (g : List Int) (h6 : g.length ≤ 6) : Abs.Spec Try.prog 26 [.sl false false (mI g)] [] fun v H' => H' = [] ∧ v = .sl false false (mS (circs g)) := by
  have e87 : ∀ (i j : Nat),i < g.length → ∀ H,CallV Try.prog (.fn (.func 50) [] []) [.sl false false (mI g),I i,I j] H fun v H' => v = B (hp g i j) ∧ H' = H := fun i j hi H => liftV (s50 false false g i j hi) (by simp [bndL,AVal.bnd,mI_bnd]) rfl H
  refine Abs.Spec.walk mixed fn26 nn26 t26 q26 nt26 (by simp) ?_
  have hw : ∀ k : Nat,k ≤ 6 → IntKind.i64.wrap ((k : Int) + 1) = ((k + 1 : Nat) : Int) := fun k hk => by rw [wrap64 (by omega) (by omega)]; rfl
  simp only [w26,go_sem,Nat.reduceEqDiff,Nat.reduceAdd,Nat.reduceLT,Nat.reduceLeDiff,reduceIte,reduceCtorEq]
  refine W_loop (fun q : { a : Nat // a ≤ g.length } => ([(0,.sl false false (mI g)),(3,.own 0 0 (g1 g q.1).length (g1 g q.1).length 1),(8,I g.length),(9,I q.1)],[.cells (mS (g1 g q.1))])) (fun q => g.length - q.1) ⟨0,by omega⟩ [none] (Wk.mk0 rfl (by simp [imgs,Blk.alive]) (by simp [hle,csle,g1,mS_nil]) (by simp [fle,vle,Fr.get,mI_bnd,g1])) ?_
  rintro ⟨a,ha⟩
  dsimp only
  by_cases hal : a < g.length
  rotate_left
  · have d1 : ¬ (a : Int) < g.length := by omega
    obtain rfl : a = g.length := by omega
    simp only [w26L0,d1,decide_false,w26T11,go_sem,Nat.reduceEqDiff,Nat.reduceAdd,Nat.reduceLT,Nat.reduceLeDiff,reduceIte,reduceCtorEq]
    have hl1 := g1_len h6 g.length
    refine CallK.by (sortRows (xs := g1 g g.length) (fun x hx => ?_) rfl rfl (by omega)) fun v H' ⟨hv,hH⟩ => ?_
    · have := (circs_mem.1 ((Sp.sortV_perm _).mem_iff.2 hx) : Cir g x).len
      omega
    subst hv hH
    simp only [go_sem,Nat.reduceEqDiff,Nat.reduceAdd,Nat.reduceLT,Nat.reduceLeDiff,reduceIte,reduceCtorEq]
    refine leaf (.sl false false (mS (circs g))) (vle_mS rfl (by simp) (by unfold circs; rw [(Sp.sortV_perm _).length_eq]) (List.take_of_length_le (by rw [mS_length,(Sp.sortV_perm _).length_eq]; exact Nat.le_refl _))) ⟨rfl,rfl⟩
  have d1 : (a : Int) < g.length := by omega
  have ha1 := hw a (by omega)
  simp only [w26L0,d1,decide_true,w26T1,ha1,go_sem,Nat.reduceEqDiff,Nat.reduceAdd,Nat.reduceLT,Nat.reduceLeDiff,reduceIte,reduceCtorEq]
  refine W_loop (fun q : { b : Nat // a + 1 ≤ b ∧ b ≤ g.length } => ([(0,.sl false false (mI g)),(3,.own 0 0 (g1 g a ++ g2 g a q.1).length (g1 g a ++ g2 g a q.1).length 1),(4,I a),(5,I q.1),(8,I g.length),(9,I a)],[.cells (mS (g1 g a ++ g2 g a q.1))])) (fun q => g.length - q.1) ⟨a + 1,by omega⟩ [some 0] (Wk.mk0 rfl (by simp [imgs,Blk.alive]) (by simp [hle,csle,g2_low,mS_bnd]) (by simp [fle,vle,Fr.get,mI_bnd,g2_low])) ?_
  rintro ⟨b,hb0⟩
  have hab := hb0.1
  have hb := hb0.2
  dsimp only
  by_cases hbl : b < g.length
  rotate_left
  · have d2 : ¬ (b : Int) < g.length := by omega
    obtain rfl : b = g.length := by omega
    simp only [w26L2,d2,decide_false,w26T10,ha1,go_sem,Nat.reduceEqDiff,Nat.reduceAdd,Nat.reduceLT,Nat.reduceLeDiff,reduceIte,reduceCtorEq]
    exact round1 rfl ⟨a + 1,hal⟩ [some 0] (by dsimp only; omega) (Wk.mk0 rfl (by simp [imgs,Blk.alive]) (by simp [hle,csle,g1_snoc,mS_bnd]) (by simp [fle,vle,Fr.get,mI_bnd,g1_snoc]))
  have d2 : (b : Int) < g.length := by omega
  have hb1 := hw b (by omega)
  simp only [w26L2,d2,decide_true,w26T3,go_sem,Nat.reduceEqDiff,Nat.reduceAdd,Nat.reduceLT,Nat.reduceLeDiff,reduceIte,reduceCtorEq]
  refine CallK.pure (e87 a b hal _) ?_
  cases hh : hp g a b with
  | false =>
    have eb : gB g a b = [] := by unfold gB; rw [hh,Bool.and_false]; rfl
    simp only [w26T9,hb1,go_sem,Nat.reduceEqDiff,Nat.reduceAdd,Nat.reduceLT,Nat.reduceLeDiff,reduceIte,reduceCtorEq]
    exact round1 rfl ⟨b + 1,by omega,hbl⟩ [some 0] (by dsimp only; omega) (Wk.mk0 rfl (by simp [imgs,Blk.alive]) (by simp [hle,csle,g2_snoc,eb,mS_bnd]) (by simp [fle,vle,Fr.get,mI_bnd,g2_snoc,eb]))
  | true =>
  simp only [w26T4,go_sem,Nat.reduceEqDiff,Nat.reduceAdd,Nat.reduceLT,Nat.reduceLeDiff,reduceIte,reduceCtorEq]
  refine CallK.pure (e87 b a hbl _) ?_
  have hl1 := g1_len h6 a
  have hl2 := g2_len h6 a b
  have hPl : (g1 g a ++ g2 g a b).length ≤ 300 := by rw [List.length_append]; omega
  have last : ∀ P : List (List Int),P ++ g3 g a b g.length = g1 g a ++ g2 g a (b + 1) → KQ ⟨Try.prog,0,69,true⟩ (retA 0 r26 fun v H' => H' = [] ∧ v = sl false false (mS (circs g))) .norm
      [Kont.block 3,Kont.seq c26T9,Kont.loop [] (fun q : { b : Nat // a + 1 ≤ b ∧ b ≤ g.length } => ([(0,.sl false false (mI g)),(3,.own 0 0 (g1 g a ++ g2 g a q.1).length (g1 g a ++ g2 g a q.1).length 1),(4,I a),(5,I q.1),(8,I g.length),(9,I a)],[.cells (mS (g1 g a ++ g2 g a q.1))])) (fun q => g.length - q.1) ⟨b,hb0⟩,
      Kont.block 2,Kont.block 1,Kont.seq c26T10,Kont.loop [] (fun q : { a : Nat // a ≤ g.length } => ([(0,.sl false false (mI g)),(3,.own 0 0 (g1 g q.1).length (g1 g q.1).length 1),(8,I g.length),(9,I q.1)],[.cells (mS (g1 g q.1))])) (fun q => g.length - q.1) ⟨a,ha⟩,Kont.block 0,Kont.seq c26T11]
      [(40,B false),(39,I g.length),(38,.sl false false (mI g)),(37,I g.length),(0,.sl false false (mI g)),(3,.own 0 0 (P ++ g3 g a b g.length).length (P ++ g3 g a b g.length).length 1),(4,I a),(5,I b),(6,I g.length),(8,I g.length),(9,I a)] [.cells (mS (P ++ g3 g a b g.length))] [] := by
    intro P hPe
    rw [hPe]
    simp only [w26T9,hb1,go_sem,Nat.reduceEqDiff,Nat.reduceAdd,Nat.reduceLT,Nat.reduceLeDiff,reduceIte,reduceCtorEq]
    exact round1 rfl ⟨b + 1,by omega,hbl⟩ [some 0] (by dsimp only; omega) (Wk.mk0 rfl (by simp [imgs,Blk.alive]) (by simp [hle,csle,mS_bnd]) (by simp [fle,vle,Fr.get,mI_bnd]))
  have eg : gB g a b = (if hp g b a then [[(a : Int),b]] else []) ++ g3 g a b g.length := by unfold gB; rw [hh,decide_eq_true (by omega)]; rfl
  cases hba : hp g b a with
  | false =>
    rw [hba] at eg
    simp only [go_sem,Nat.reduceEqDiff,Nat.reduceAdd,Nat.reduceLT,Nat.reduceLeDiff,reduceIte,reduceCtorEq]
    exact tail71 h6 hal hbl (P := g1 g a ++ g2 g a b) (by omega) (ρ := [some 0]) (Wk.mk0 rfl (by simp [imgs,Blk.alive]) (by simp [hle,csle,mS_bnd]) (by simp [fle,vle,Fr.get,mI_bnd])) (last _ (by rw [g2_snoc,eg]; simp))
  | true =>
    rw [hba] at eg
    simp only [go_sem,Nat.reduceEqDiff,Nat.reduceAdd,Nat.reduceLT,Nat.reduceLeDiff,reduceIte,reduceCtorEq]
    have hl3 : (g1 g a ++ g2 g a b ++ [[(a : Int),b]]).length = (g1 g a ++ g2 g a b).length + 1 := by rw [List.length_append (bs := [_])]; rfl
    refine ⟨by omega,tail71 h6 hal hbl (P := g1 g a ++ g2 g a b ++ [[(a : Int),b]]) (by omega) (ρ := [some 3]) (Wk.mk0 rfl (by simp [imgs,Blk.alive]) ⟨.inr ?_,trivial⟩ (by simp [fle,vle,Fr.get,mI_bnd]; omega)) (last _ (by rw [g2_snoc,eg]; simp))⟩
    rw [← mS_append (xs := g1 g a ++ g2 g a b)]
    exact vleL_snoc (vle_mI (xs := [(a : Int),b]) (cs := [I a,I b]) rfl (by simp [imgs,Blk.alive]) rfl rfl) _
end Go.Proofs.Ytlonaefihjdkpaa
