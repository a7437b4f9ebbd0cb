/- Contracts: copies of wishes,ranks,lies; Contracts: lying; Contract: the function of the statement about lies; Contract: the function of the statement that nobody does better by a lie; Contracts: choosing in turns; Contracts: all deals,one after the other; Contracts: the iterator over all deals; Contracts: the program's first order that makes a deal; Contracts: the reference's deals,and its first order; Contracts: the reference's first order,and the statement's function; Contracts: how deals compare,and how many are in a set; Contracts: which sets block a deal; Contracts: the first better deal; Contracts: the reference's first better deal,and its sets that block; Contracts: the reference's least set that blocks; Contracts: all deals,one after the other,for any client; Contracts: Core; Contracts: the reference's Core,EqualFunc,and the statement SwapsCores. -/
import Derived.Test.YtkmmngphcodjjaaBA
import Derived.Test.YtkmmngphcodjjaaCE
import Derived.Test.YtkmmngphcodjjaaPZ
import Derived.Test.YtkmmngphcodjjaaPO
import Derived.Test.YtkmmngphcodjjaaAS
import Derived.Test.YtkmmngphcodjjaaPR
import Derived.Test.YtkmmngphcodjjaaAN
namespace Go.Proofs.Ytkmmngphcodjjaa
open Go.Abs AVal
set_option linter.unusedSimpArgs false
attribute [local go_sem] W_skip W_keep KQ_canon canon Fr.norm W_seq W_block W_scope W_exit W_ret W_ops W_draw KQ_nil KQ_norm_seq KQ_exit_seq KQ_ret_seq KQ_norm_block KQ_ret_block KQ_exit_block KQ_exit_loop KQ_ret_loop O_nil O_cons S_call S_mv SE_mv SD_mv S_pick SE_pick SD_pick S_bin SE_bin SD_bin S_eqb SE_eqb SD_eqb S_eqv SE_eqv SD_eqv S_eqnil SE_eqnil SD_eqnil S_un SE_un SD_un S_conv SE_conv SD_conv S_mkfn SE_mkfn SD_mkfn S_load SE_load SD_load S_nilck SE_nilck SD_nilck S_slS SE_slS SD_slS S_slP SE_slP SD_slP S_fldA SE_fldA SD_fldA S_fld SE_fld SD_fld S_ixS SE_ixS SD_ixS S_ixP SE_ixP SD_ixP S_ixV SE_ixV SD_ixV S_ixStr SE_ixStr SD_ixStr S_ext SE_ext SD_ext S_len SE_len SD_len S_lenStr SE_lenStr SD_lenStr S_lenc SE_lenc SD_lenc S_mn SE_mn SD_mn S_mx SE_mx SD_mx S_build SE_build SD_build S_alloc SD_alloc S_box SD_box S_bslice SD_bslice S_mksl SD_mksl S_store SD_store S_append SD_append S_copy SD_copy S_clr SD_clr S_mlen SE_mlen SD_mlen S_mget SE_mget SD_mget S_mval SE_mval SD_mval S_mentry SE_mentry SD_mentry S_mkmap SD_mkmap S_mset SD_mset S_mrange SD_mrange S_mnext mlenA mgetA mvalA mentryA msetA mrangeA cells_mp isCell_mp cellsOk_mp aq_some aa_some al_some alA_some aqd_some aad_some ald_some ape_some D_done D_both D_early D_step SE_call SD_call IOpd.ev Fr.get Fr.put Fr.putd entryFr pickA binA binI isSh shI eqbA eqvA ints ints_mI Option.map_some eqnilA unA convA loadA nilckA intA slSA slPA fldAA fldVA ixSA ixPA ixVA ixStrA extA lenA lenStrA mnA mxA AVal.fits fillA fillOk buildA opa srcA appA stoA copA clrA rdFree zeros List.length_nil List.length_cons List.length_map List.map_cons List.map_nil Option.map_some Option.map_none if_true if_false ite_true ite_false true_and and_true and_self implies_true forall_const true_implies Bool.false_eq_true Bool.not_true Bool.not_false decide_eq_true_eq decide_eq_false_iff_not eq_self List.getElem?_cons_zero List.getElem?_cons_succ List.getElem?_nil List.set_cons_zero List.set_cons_succ List.nil_append List.cons_append List.append_nil List.replicate_zero List.replicate_succ Nat.zero_add false_implies rng_lt rng_end rng_get cells_I cells_B cells_sl cut_one Int.toNat_natCast Int.natCast_nonneg List.headD_cons Int.lt_irrefl not_false_eq_true decide_false decide_true mI_length mI_cells mI_sz mI_isCell mI_mid mI_append mI_take mI_drop cells_val cells_own cells_agg isCell_I isCell_B isCell_nil isCell_sl isCell_own isCell_ptr isCell_fn isCell_rp isCell_yld cellsOk_I cellsOk_B cellsOk_nil cellsOk_sl cellsOk_own cellsOk_ptr cellsOk_fn cellsOk_rp cellsOk_yld cellsOk_agg cells_nil cells_ptr cells_fn cells_rp List.all_cons List.all_nil Bool.and_true Nat.mul_one Nat.zero_mul Nat.one_mul List.take_zero List.take_nil List.drop_nil List.drop_zero List.not_mem_nil Nat.le_refl Nat.zero_le mS_length mS_cells mS_sz mS_isCell mS_mid mS_append mS_take mS_drop cells_sI isCell_sI cellsOk_sI sI_eq succ_le_self' List.take_succ_cons List.drop_succ_cons List.take_length beq_self_eq_true List.mem_cons or_false forall_eq mI_put mI_rep O_guard' D_earlyG' D_stepG' W_cond' G_tt G_tf G_ft G_ff GE_tt GE_tf GE_ft GE_ff GS_tt GS_tf GS_ft GS_ff G_u GE_u GS_u IC_t IC_f xft xff xtt xtf z00 z20 z22 z02 zz tn0
theorem s61 (nn t : Bool) (w : List (List Int)) (i : Nat) (c : Int) (hi : i < w.length) (hl : (w.getD i []).length < 9223372036854775808) :
    Abs.Spec Try.prog 61 [.sl nn t (mS w),I i,I c] [] fun v H' => H' = [] ∧ v = I (Sp.pos w i c) := by
  refine Abs.Spec.walk mixed fn61 nn61 t61 q61 nt61 (by simp) ?_
  simp only [w61,mS_get,hi,go_sem,Nat.reduceEqDiff,Nat.reduceAdd,Nat.reduceLT,Nat.reduceLeDiff,reduceIte,reduceCtorEq]
  refine ⟨by omega,?_⟩
  refine CallK.by (CallV.of_spec (s58 false false (w.getD i []) c hl)) fun v H' ⟨h1,h2⟩ => ?_
  subst h1 h2
  simp only [go_sem,Nat.reduceEqDiff,Nat.reduceAdd,Nat.reduceLT,Nat.reduceLeDiff,reduceIte,reduceCtorEq]
  exact leaf (I _) rfl ⟨rfl,rfl⟩
open Go.Abs AVal
open Go.Abs AVal
theorem tab_len {w : List (List Int)} (hw : ∀ l ∈ w,l.length < 9223372036854775808) (hl : w.length < 9223372036854775808) : (∀ l ∈ Sp.table w,l.length < 9223372036854775808) ∧ (Sp.table w).length < 9223372036854775808 := by
  refine ⟨fun l hm => ?_,by simp [Sp.table]; omega⟩
  unfold Sp.table at hm
  obtain ⟨a,_,rfl⟩ := List.mem_map.1 hm
  simp; omega
open Go.Abs AVal
open Go.Abs AVal
theorem s62 (nn t nn' t' : Bool) (w : List (List Int)) (o : List Int) (g : Sp.Good w) (ho : o.length ≤ w.length) (hr : ∀ x ∈ o,0 ≤ x ∧ x < w.length) :
    Abs.Spec Try.prog 62 [.sl nn t (mS w),.sl nn' t' (mI o)] [] fun v H' => H' = [] ∧ v = .sl false false (mI (Sp.turnsP w o)) := by
  have g1 := g.n1
  have g6 := g.n6
  refine Abs.Spec.walk mixed fn62 nn62 t62 q62 nt62 (by simp) ?_
  simp only [w62,go_sem,Nat.reduceEqDiff,Nat.reduceAdd,Nat.reduceLT,Nat.reduceLeDiff,reduceIte,reduceCtorEq]
  refine ⟨⟨Int.le_refl _,by omega,by omega⟩,?_⟩
  refine W_loop (fun p : { p : (List Int × List Int) × Int × List Int // p.1.1 ++ p.1.2 = o ∧ Sp.Left w.length p.2.1 p.1.2.length ∧ p.2.2.length = w.length ∧ Sp.turnsG w p.1.2 p.2.1 p.2.2 = Sp.turnsP w o } =>
    ([(0,sl nn t (mS w)),(5,own 0 0 w.length w.length 1),(6,I p.1.2.1),(16,sl nn' t' (mI o)),(17,I o.length),(18,I p.1.1.1.length)],[.cells (mI p.1.2.2)])) (fun p => p.1.1.2.length)
    ⟨(([],o),Sp.fullS w.length,List.replicate w.length 0),rfl,⟨(Sp.left_full g6).set,(Sp.left_full g6).lt,Nat.le_trans ho (Sp.left_full g6).pc⟩,by simp,rfl⟩ [some 0] (Wk.mk0 rfl (by simp [imgs,Blk.alive]) (by simp [hle,csle,mI_rep,mI_bnd]) (by simp [fle,vle,Fr.get,mS_bnd,mI_bnd,Sp.fullS,Sp.shl1,IntKind.bits])) ?_
  rintro ⟨⟨⟨pre,suf⟩,left,D⟩,hp,hleft,hD,hinv⟩
  dsimp only at hp hleft hD hinv
  subst hp
  have hlen : (pre ++ suf).length < 9223372036854775808 := by omega
  cases suf with
  | nil =>
    simp only [w62L0,w62T1,go_sem,Nat.reduceEqDiff,Nat.reduceAdd,Nat.reduceLT,Nat.reduceLeDiff,reduceIte,reduceCtorEq]
    rw [List.append_nil] at hinv
    exact leaf (.sl false false (mI (Sp.turnsP w pre))) (vle_mI rfl (by simp) (Sp.turnsP_len _ _).symm (by rw [← hinv,Sp.turnsG,← hD,take_mI])) ⟨rfl,rfl⟩
  | cons x suf =>
    obtain ⟨hx0,hxn⟩ := hr x (by simp)
    obtain ⟨i,rfl⟩ : ∃ i : Nat,x = i := ⟨x.toNat,by omega⟩
    have hi : i < w.length := by omega
    have hi' : (i : Int) < w.length := by omega
    obtain ⟨c,hc,hb,hcl⟩ := hleft.best g hi
    have hiD : i < D.length := by omega
    have hbest : ∀ H,CallV Try.prog (.fn (.func 81) [] []) [.sl nn t (mS w),I i,I left] H fun v H' => v = I c ∧ H' = H := fun H => by
      rw [← hb]
      exact liftV (s81 nn t w i left hi (fun c hc => (g.rng _ (Sp.getD_mem hi) c hc).1) (by have := g.len _ (Sp.getD_mem (d := []) hi); omega) (hleft.bit g hi)) (by simp [bndL,AVal.bnd,mS_bnd]) rfl H
    have hset : (D.set i c).length = w.length := by rw [List.length_set,hD]
    have hiS : i < (D.set i (c : Int)).length := by omega
    have hget : (D.set i (c : Int)).getD i 0 = c := by simp [List.getD_eq_getElem?_getD,hiD]
    simp only [w62L0,hi',go_sem,Nat.reduceEqDiff,Nat.reduceAdd,Nat.reduceLT,Nat.reduceLeDiff,reduceIte,reduceCtorEq]
    refine CallK.pure (hbest _) ?_
    have hwk : IntKind.i64.wrap ((pre.length : Int) + 1) = pre.length + 1 := wrap64 (by simp at hlen; omega) (by simp at hlen; omega)
    simp only [hi',mI_put,Sp.put_set,hiD,hiS,mI_hd,hget,go_sem,Nat.reduceEqDiff,Nat.reduceAdd,Nat.reduceLT,Nat.reduceLeDiff,reduceIte,reduceCtorEq]
    refine ⟨by omega,by omega,?_⟩
    refine round1 rfl ⟨((pre ++ [(i : Int)],suf),Sp.butI left (Sp.shl1 c),D.set i c),by simp,hleft.step (by omega),hset,by rw [← hinv,Sp.turnsG,Int.toNat_natCast,hb]⟩ [some 0] (by simp) (Wk.mk0 rfl (by simp [imgs,Blk.alive]) (by simp [hle,csle,mI_bnd]) (by simp [fle,vle,Fr.get,hwk,mS_bnd,mI_bnd,Sp.butI,Sp.shl1,IntKind.bits]))
theorem s30 (w : List (List Int)) (o : List Int) (hw : ∀ l ∈ w,l.length < 9223372036854775808) (hl : w.length < 9223372036854775808) (ho : o.length < 9223372036854775808) :
    Abs.Spec Try.prog 30 [.sl false false (mS w),.sl false false (mI o)] [] fun v H' => H' = [] ∧ v = if Sp.valid w && Sp.isOrder o w.length then .tup [.sl false false (mI (Sp.turnsP w o)),I 0] else .tup [.sl false false (mI []),I 2] := by
  refine Abs.Spec.walk mixed fn30 nn30 t30 q30 nt30 (by simp) ?_
  simp only [w30,go_sem,Nat.reduceEqDiff,Nat.reduceAdd,Nat.reduceLT,Nat.reduceLeDiff,reduceIte,reduceCtorEq]
  refine CallK.by (CallV.of_spec (s55 false false w hw hl)) fun v H' ⟨h1,h2⟩ => ?_
  subst h1 h2
  simp only [go_sem,Nat.reduceEqDiff,Nat.reduceAdd,Nat.reduceLT,Nat.reduceLeDiff,reduceIte,reduceCtorEq]
  refine G.split (fun hv => ?_) fun hv => ?_
  · have hv : Sp.valid w = false := by simpa using hv
    simp only [go_sem,Nat.reduceEqDiff,Nat.reduceAdd,Nat.reduceLT,Nat.reduceLeDiff,reduceIte,reduceCtorEq]
    exact leaf2 (.tup [.sl false false (mI []),I 2]) ⟨⟨mI_bnd,rfl,rfl⟩,rfl,trivial⟩ ⟨rfl,by rw [hv]; rfl⟩
  have hv : Sp.valid w = true := by simpa using hv
  have g := Sp.valid_good hv
  simp only [go_sem,Nat.reduceEqDiff,Nat.reduceAdd,Nat.reduceLT,Nat.reduceLeDiff,reduceIte,reduceCtorEq]
  refine CallK.by (CallV.of_spec (s59 false false o w.length ho)) fun v H' ⟨h1,h2⟩ => ?_
  subst h1 h2
  simp only [go_sem,Nat.reduceEqDiff,Nat.reduceAdd,Nat.reduceLT,Nat.reduceLeDiff,reduceIte,reduceCtorEq]
  refine IC.split (fun ha => ?_) fun ha => ?_
  · have ha : Sp.isOrder o w.length = false := by simpa using ha
    simp only [go_sem,Nat.reduceEqDiff,Nat.reduceAdd,Nat.reduceLT,Nat.reduceLeDiff,reduceIte,reduceCtorEq]
    exact leaf2 (.tup [.sl false false (mI []),I 2]) ⟨⟨mI_bnd,rfl,rfl⟩,rfl,trivial⟩ ⟨rfl,by rw [hv,ha]; rfl⟩
  have ha : Sp.isOrder o w.length = true := by simpa using ha
  obtain ⟨h1,h2,-⟩ := Sp.order_spec g.n6 ha
  simp only [go_sem,Nat.reduceEqDiff,Nat.reduceAdd,Nat.reduceLT,Nat.reduceLeDiff,reduceIte,reduceCtorEq]
  refine CallK.by (CallV.of_spec (s62 false false false false w o g (by omega) h2)) fun v H' ⟨h1,h2⟩ => ?_
  subst h1 h2
  simp only [go_sem,Nat.reduceEqDiff,Nat.reduceAdd,Nat.reduceLT,Nat.reduceLeDiff,reduceIte,reduceCtorEq]
  exact leaf2 (.tup [.sl false false (mI (Sp.turnsP w o)),I 0]) ⟨⟨mI_bnd,fun h => (by cases h),fun h => (by cases h),rfl⟩,rfl,trivial⟩ ⟨rfl,by rw [hv,ha]; rfl⟩
open Go.Abs AVal
def growV (b n : Nat) (set : Int) : AVal := .fn (.func 83) [] [.rp [I n],.ptr b 0,.ptr (b + 2) 0,.rp [I set],.ptr (b + 3) 0]
def HS (Hp : AHeap) (b L n : Nat) (set : Int) (D : List Int) : AHeap := Hp ++ [.cells [.yld L],.cells (mI D),.cells [.own (b + 1) 0 n n 1],.cells [growV b n set]]
theorem HS_len (Hp : AHeap) (b L n : Nat) (set : Int) (D : List Int) : (HS Hp b L n set D).length = Hp.length + 4 := by simp [HS]
theorem HS_ok {Hp : AHeap} {b L n : Nat} {set : Int} (D : List Int) (hL : L < b) (h : ∀ x ∈ Hp,blkOk (b + 4) x = true) : ∀ x ∈ HS Hp b L n set D,blkOk (b + 4) x = true := fun x hx => by
  rcases List.mem_append.1 hx with hx | hx
  · exact h x hx
  · simp only [List.mem_cons,List.not_mem_nil,or_false] at hx
    rcases hx with rfl | rfl | rfl | rfl
    · simp [blkOk,vid]; omega
    · simp [blkOk,mI_bnd]
    · simp [blkOk,vid]
    · simp [blkOk,vid,growV,bndL,AVal.bnd]
structure DOk (n : Nat) (set : Int) (D : List Int) : Prop where
  len : D.length = n
  rng : ∀ x ∈ D,0 ≤ x ∧ x < n
  zero : ∀ j : Nat,j < n → (Sp.bitAt set j == 0) = true → D.getD j 0 = 0
theorem DOk.set {n : Nat} {set : Int} {D : List Int} (h : DOk n set D) {i c : Nat} (hc : c < n) (hb : (Sp.bitAt set i == 0) = false) : DOk n set (D.set i c) := by
  refine ⟨by rw [List.length_set]; exact h.len,fun x hx => ?_,fun j hj hz => ?_⟩
  · rcases List.mem_or_eq_of_mem_set hx with hx | rfl
    · exact h.rng x hx
    · omega
  · rw [List.getD_eq_getElem?_getD,List.getElem?_set]
    split
    · rename_i hij; subst hij; rw [hb] at hz; cases hz
    · have := h.zero j hj hz
      rwa [List.getD_eq_getElem?_getD] at this
def growR (Hp : AHeap) (Hs : List Int → AHeap) (b L n : Nat) (set : Int) (p : List Int → Bool) (i : Nat) (D : List Int) (l : List (List Int)) (v : AVal) (H' : AHeap) : Prop :=
  match l.find? p with
  | none => v = B true ∧ ∃ D',DOk n set D' ∧ D'.take i = D.take i ∧ H' = HS Hp b L n set D'
  | some o => v = B false ∧ H' = HS (Hs o) b L n set o
set_option maxHeartbeats 2000000 in
theorem s83 {Hp : AHeap} {Hs : List Int → AHeap} {b L n : Nat} {set : Int} {p : List Int → Bool} (hb : Hp.length = b) (hL : L < b) (hn : n ≤ 6) (hok : ∀ x ∈ Hp,blkOk (b + 4) x = true) (hs : ∀ D,(Hs D).length = b) (hsok : ∀ D,∀ x ∈ Hs D,blkOk (b + 4) x = true)
    (Y : ∀ D,DOk n set D → CallV Try.prog (.yld L) [.own (b + 1) 0 n n 1] (HS Hp b L n set D) fun v H' => (p D = false ∧ v = B true ∧ H' = HS Hp b L n set D) ∨ (p D = true ∧ v = B false ∧ H' = HS (Hs D) b L n set D)) :
    ∀ (m i : Nat) (left : Int) (D : List Int),i + m = n → DOk n set D →
      Abs.Spec Try.prog 83 [I i,I left,.rp [I n],.ptr b 0,.ptr (b + 2) 0,.rp [I set],.ptr (b + 3) 0] (HS Hp b L n set D) (growR Hp Hs b L n set p i D (Sp.comps n set m i left (D.take i)))
  | 0,i,left,D,him,hD => by
    subst hb
    have hin : i = n := by omega
    subst hin
    refine Abs.Spec.walk mixed fn83 nn83 t83 q83 nt83 (by simp) ?_
    rw [HS_len]
    simp only [w83,HS,app_get,app_get0,go_sem,Nat.reduceEqDiff,Nat.reduceAdd,Nat.reduceLT,Nat.reduceLeDiff,reduceIte,reduceCtorEq]
    have hpre : D.take i = D := List.take_of_length_le (by have := hD.len; omega)
    refine CallK.by (Y D hD) fun v H' hv => ?_
    rcases hv with ⟨hp,rfl,rfl⟩ | ⟨hp,rfl,rfl⟩
    · simp only [go_sem,Nat.reduceEqDiff,Nat.reduceAdd,Nat.reduceLT,Nat.reduceLeDiff,reduceIte,reduceCtorEq]
      refine leafB' (B true) rfl (HS_len _ _ _ _ _ _) (HS_ok D hL hok) rfl ?_
      simp only [growR,Sp.comps,hpre,List.find?_cons,hp,List.find?_nil]
      exact ⟨trivial,D,hD,hpre,rfl⟩
    · simp only [go_sem,Nat.reduceEqDiff,Nat.reduceAdd,Nat.reduceLT,Nat.reduceLeDiff,reduceIte,reduceCtorEq]
      refine leafB' (B false) rfl (by rw [HS_len,hs]) (HS_ok D hL (hsok D)) rfl ?_
      simp only [growR,Sp.comps,hpre,List.find?_cons,hp]
      exact ⟨trivial,trivial⟩
  | m + 1,i,left,D,him,hD => by
    subst hb
    refine Abs.Spec.walk mixed fn83 nn83 t83 q83 nt83 (by simp) ?_
    rw [HS_len]
    have hin : ((i : Int) == n) = false := by rw [beq_eq_false_iff_ne]; omega
    have hw : IntKind.i64.wrap ((i : Int) + 1) = ((i + 1 : Nat) : Int) := by rw [wrap64 (by omega) (by omega)]; rfl
    have hiD : i < D.length := by have := hD.len; omega
    simp only [w83,HS,app_get,app_get0,hin,go_sem,Nat.reduceEqDiff,Nat.reduceAdd,Nat.reduceLT,Nat.reduceLeDiff,reduceIte,reduceCtorEq]
    refine IC.split (fun h => ?_) fun h => ?_
    · have h : (Sp.bitAt set i == 0) = true := h
      have ht : D.take (i + 1) = D.take i ++ [0] := by
        rw [List.take_add_one,List.getElem?_eq_getElem hiD]
        have := hD.zero i (by omega) h
        rw [List.getD_eq_getElem?_getD,List.getElem?_eq_getElem hiD] at this
        simp at this
        rw [this]; rfl
      have hc : Sp.comps n set (m + 1) i left (D.take i) = Sp.comps n set m (i + 1) left (D.take (i + 1)) := by
        rw [ht]
        conv => lhs; unfold Sp.comps
        rw [if_pos h]
      simp only [app_get,app_get0,hw,go_sem,Nat.reduceEqDiff,Nat.reduceAdd,Nat.reduceLT,Nat.reduceLeDiff,reduceIte,reduceCtorEq]
      refine CallK.by (CallV.of_spec (s83 rfl hL hn hok hs hsok Y m (i + 1) left D (by omega) hD)) fun v H' hv => ?_
      unfold growR at hv
      cases hf : (Sp.comps n set m (i + 1) left (D.take (i + 1))).find? p with
      | none =>
        rw [hf] at hv
        obtain ⟨rfl,D',hD',hpre,rfl⟩ := hv
        simp only [go_sem,Nat.reduceEqDiff,Nat.reduceAdd,Nat.reduceLT,Nat.reduceLeDiff,reduceIte,reduceCtorEq]
        refine leafB' (B true) rfl (HS_len _ _ _ _ _ _) (HS_ok D' hL hok) rfl ?_
        simp only [growR,hc,hf]
        refine ⟨trivial,D',hD',?_,rfl⟩
        have := congrArg (List.take i) hpre
        rwa [List.take_take,List.take_take,show min i (i + 1) = i by omega] at this
      | some o =>
        rw [hf] at hv
        obtain ⟨rfl,rfl⟩ := hv
        simp only [go_sem,Nat.reduceEqDiff,Nat.reduceAdd,Nat.reduceLT,Nat.reduceLeDiff,reduceIte,reduceCtorEq]
        refine leafB' (B false) rfl (by rw [HS_len,hs]) (HS_ok o hL (hsok o)) rfl ?_
        simp only [growR,hc,hf]
        exact ⟨trivial,trivial⟩
    · have h : (Sp.bitAt set i == 0) = false := h
      obtain ⟨F,hF⟩ : ∃ F : Nat → List (List Int),F = fun (c : Nat) => if (Sp.bitAt left (c : Int) == 1) = true then Sp.comps n set m (i + 1) (Sp.butI left (Sp.shl1 c)) (D.take i ++ [(c : Int)]) else [] := ⟨_,rfl⟩
      have hc : Sp.comps n set (m + 1) i left (D.take i) = (List.range n).flatMap F := by
        conv => lhs; unfold Sp.comps
        rw [h,hF]; rfl
      simp only [app_get,app_get0,go_sem,Nat.reduceEqDiff,Nat.reduceAdd,Nat.reduceLT,Nat.reduceLeDiff,reduceIte,reduceCtorEq]
      refine W_loop (fun q : { q : Nat × List Int // q.1 ≤ n ∧ DOk n set q.2 ∧ q.2.take i = D.take i ∧ ((List.range q.1).flatMap F).find? p = none } =>
        ([(0,I i),(1,I left),(4,ptr (Hp.length + 2) 0),(6,ptr (Hp.length + 3) 0),(27,I n),(28,I q.1.1)],HS Hp Hp.length L n set q.1.2)) (fun q => n - q.1.1)
        ⟨(0,D),by omega,hD,rfl,rfl⟩ (idρ (Hp.length + 4)) (WkB (HS_len Hp Hp.length L n set D) (HS_ok D hL hok) ?_) ?_
      · intro q hq
        simp only [List.mem_cons,List.not_mem_nil,or_false] at hq
        rcases hq with rfl | rfl | rfl | rfl | rfl | rfl <;> exact ⟨rfl,by simp [vid]⟩
      rintro ⟨⟨c,D1⟩,hcn,hD1,hpre1,hnone⟩
      dsimp only at hcn hD1 hpre1 hnone ⊢
      by_cases hcl : c < n
      · have hz : decide ((c : Int) < n) = true := decide_eq_true (by omega)
        have hwc : IntKind.i64.wrap ((c : Int) + 1) = ((c + 1 : Nat) : Int) := by rw [wrap64 (by omega) (by omega)]; rfl
        simp only [w83L0,hz,go_sem,Nat.reduceEqDiff,Nat.reduceAdd,Nat.reduceLT,Nat.reduceLeDiff,reduceIte,reduceCtorEq]
        refine IC.split (fun hb => ?_) fun hb => ?_
        · have hb : (Sp.bitAt left (c : Int) == 1) = true := hb
          have hiD1 : i < D1.length := by have := hD1.len; omega
          have hi' : (i : Int) < n := by omega
          have hD2 := hD1.set hcl h
          have hsame : D1.length = n := hD1.len
          simp only [HS,app_get,app_get0,app_set,app_set0,hi',mI_put,Sp.put_set,hiD1,hw,go_sem,Nat.reduceEqDiff,Nat.reduceAdd,Nat.reduceLT,Nat.reduceLeDiff,reduceIte,reduceCtorEq]
          have hli : (D.take i).length = i := by rw [List.length_take]; omega
          have ht1 : (D1.set i (c : Int)).take (i + 1) = D.take i ++ [(c : Int)] := by
            rw [List.take_add_one,List.take_set_of_le (Nat.le_refl i),hpre1,List.getElem?_set,if_pos rfl,if_pos hiD1]; rfl
          have hFc : F c = Sp.comps n set m (i + 1) (Sp.butI left (Sp.shl1 c)) ((D1.set i (c : Int)).take (i + 1)) := by
            rw [ht1,hF]; simp only [hb,if_true]
          refine ⟨by omega,?_⟩
          refine CallKD.by (CallV.of_spec (s83 rfl hL hn hok hs hsok Y m (i + 1) (Sp.butI left (Sp.shl1 c)) (D1.set i (c : Int)) (by omega) hD2)) fun v H' hv => ?_
          unfold growR at hv
          rw [← hFc] at hv
          cases hf : (F c).find? p with
          | none =>
            rw [hf] at hv
            obtain ⟨rfl,D',hD',hpre,rfl⟩ := hv
            have hpre' : D'.take i = D.take i := by
              have := congrArg (List.take i) (hpre.trans ht1)
              rwa [List.take_take,show min i (i + 1) = i by omega,List.take_append_of_le_length (by omega),List.take_take,Nat.min_self] at this
            simp only [hwc,go_sem,Nat.reduceEqDiff,Nat.reduceAdd,Nat.reduceLT,Nat.reduceLeDiff,reduceIte,reduceCtorEq]
            refine roundB ⟨(c + 1,D'),by omega,hD',hpre',find_flat_succ hnone hf⟩ (by dsimp only; omega) rfl (HS_len _ _ _ _ _ _) (HS_ok D' hL hok) ?_
            intro q hq
            simp only [List.mem_cons,List.not_mem_nil,or_false] at hq
            rcases hq with rfl | rfl | rfl | rfl | rfl | rfl <;> exact ⟨rfl,by simp [vid]⟩
          | some o =>
            rw [hf] at hv
            obtain ⟨rfl,rfl⟩ := hv
            simp only [go_sem,Nat.reduceEqDiff,Nat.reduceAdd,Nat.reduceLT,Nat.reduceLeDiff,reduceIte,reduceCtorEq]
            refine leafB' (B false) rfl (by rw [HS_len,hs]) (HS_ok o hL (hsok o)) rfl ?_
            simp only [growR,hc,find_flat hcl hnone hf]
            exact ⟨trivial,trivial⟩
        · have hb : (Sp.bitAt left (c : Int) == 1) = false := hb
          have hFc : F c = [] := by rw [hF]; simp only [hb]; rfl
          simp only [hwc,go_sem,Nat.reduceEqDiff,Nat.reduceAdd,Nat.reduceLT,Nat.reduceLeDiff,reduceIte,reduceCtorEq]
          refine roundB ⟨(c + 1,D1),by omega,hD1,hpre1,find_flat_succ hnone (by rw [hFc]; rfl)⟩ (by dsimp only; omega) rfl (HS_len _ _ _ _ _ _) (HS_ok D1 hL hok) ?_
          intro q hq
          simp only [List.mem_cons,List.not_mem_nil,or_false] at hq
          rcases hq with rfl | rfl | rfl | rfl | rfl | rfl <;> exact ⟨rfl,by simp [vid]⟩
      · have hz : decide ((c : Int) < n) = false := decide_eq_false (by omega)
        obtain rfl : c = n := by omega
        simp only [w83L0,hz,w83T1,go_sem,Nat.reduceEqDiff,Nat.reduceAdd,Nat.reduceLT,Nat.reduceLeDiff,reduceIte,reduceCtorEq]
        refine leafB' (B true) rfl (HS_len _ _ _ _ _ _) (HS_ok D1 hL hok) rfl ?_
        simp only [growR,hc,hnone]
        exact ⟨trivial,D1,hD1,hpre1,rfl⟩
open Go.Abs AVal
theorem s63 (n : Nat) (set : Int) : Abs.Spec Try.prog 63 [I n,I set] [] fun v H' => H' = [] ∧ v = .fn (.func 82) [] [.rp [I n],.rp [I set]] := by
  refine Abs.Spec.walk mixed fn63 nn63 t63 q63 nt63 (by simp) ?_
  simp only [w63,go_sem,Nat.reduceEqDiff,Nat.reduceAdd,Nat.reduceLT,Nat.reduceLeDiff,reduceIte,reduceCtorEq]
  exact leaf (.fn (.func 82) [] [.rp [I n],.rp [I set]]) (by simp [vle,vle.vleL,Fr.get,bndL,AVal.bnd]) ⟨rfl,rfl⟩
def allR (Hp : AHeap) (Hs : List Int → AHeap) (p : List Int → Bool) (l : List (List Int)) (H' : AHeap) : Prop :=
  match l.find? p with
  | none => H' = Hp
  | some o => H' = Hs o
theorem s82 {Hp : AHeap} {Hs : List Int → AHeap} {b L n : Nat} {set : Int} {p : List Int → Bool} (hb : Hp.length = b) (hL : L < b) (h1 : 1 ≤ n) (hn : n ≤ 6) (hok : ∀ x ∈ Hp,blkOk b x = true) (hok4 : ∀ x ∈ Hp,blkOk (b + 4) x = true) (hs : ∀ D,(Hs D).length = b) (hsok : ∀ D,∀ x ∈ Hs D,blkOk b x = true) (hsok4 : ∀ D,∀ x ∈ Hs D,blkOk (b + 4) x = true)
    (Y : ∀ D,DOk n set D → CallV Try.prog (.yld L) [.own (b + 1) 0 n n 1] (HS Hp b L n set D) fun v H' => (p D = false ∧ v = B true ∧ H' = HS Hp b L n set D) ∨ (p D = true ∧ v = B false ∧ H' = HS (Hs D) b L n set D)) :
    Abs.Spec Try.prog 82 [.yld L,.rp [I n],.rp [I set]] Hp fun _ H' => allR Hp Hs p (Sp.comps n set n 0 set []) H' := by
  subst hb
  refine Abs.Spec.walk mixed fn82 nn82 t82 q82 nt82 (by simp) ?_
  have hD : DOk n set (List.replicate n 0) := ⟨by simp,fun x hx => by have := List.eq_of_mem_replicate hx; omega,fun j hj _ => by simp [List.getD_eq_getElem?_getD,hj]⟩
  simp only [w82,List.append_assoc,List.length_append,app_get,app_get0,app_set,app_set0,go_sem,Nat.reduceEqDiff,Nat.reduceAdd,Nat.reduceLT,Nat.reduceLeDiff,reduceIte,reduceCtorEq]
  refine ⟨⟨by omega,by omega,by omega⟩,?_⟩
  refine CallK.by (CallV.of_spec (s83 rfl hL hn hok4 hs hsok4 Y n 0 set (List.replicate n 0) (by omega) hD)) fun v H' hv => ?_
  rw [List.take_zero] at hv
  unfold growR at hv
  cases hf : (Sp.comps n set n 0 set []).find? p with
  | none =>
    rw [hf] at hv
    obtain ⟨rfl,D',hD',-,rfl⟩ := hv
    simp only [go_sem,Nat.reduceEqDiff,Nat.reduceAdd,Nat.reduceLT,Nat.reduceLeDiff,reduceIte,reduceCtorEq]
    exact leafB0 rfl hok (by simp only [allR,hf])
  | some o =>
    rw [hf] at hv
    obtain ⟨rfl,rfl⟩ := hv
    simp only [go_sem,Nat.reduceEqDiff,Nat.reduceAdd,Nat.reduceLT,Nat.reduceLeDiff,reduceIte,reduceCtorEq]
    exact leafB0 (hs o) (hsok o) (by simp only [allR,hf])
open Go.Abs AVal
theorem s62o (nn t nn' t' : Bool) (w : List (List Int)) (o : List Int) (g : Sp.Good w) (ho : o.length ≤ w.length) (hr : ∀ x ∈ o,0 ≤ x ∧ x < w.length) :
    Abs.Spec Try.prog 62 [.sl nn t (mS w),.sl nn' t' (mI o)] [] fun v H' => v = .own 0 0 (Sp.turnsP w o).length w.length 1 ∧ H' = [.cells (mI (Sp.turnsP w o))] := by
  have g1 := g.n1
  have g6 := g.n6
  refine Abs.Spec.walk mixed fn62 nn62 t62 q62 nt62 (by simp) ?_
  simp only [w62,go_sem,Nat.reduceEqDiff,Nat.reduceAdd,Nat.reduceLT,Nat.reduceLeDiff,reduceIte,reduceCtorEq]
  refine ⟨⟨Int.le_refl _,by omega,by omega⟩,?_⟩
  refine W_loop (fun p : { p : (List Int × List Int) × Int × List Int // p.1.1 ++ p.1.2 = o ∧ Sp.Left w.length p.2.1 p.1.2.length ∧ p.2.2.length = w.length ∧ Sp.turnsG w p.1.2 p.2.1 p.2.2 = Sp.turnsP w o } =>
    ([(0,sl nn t (mS w)),(5,own 0 0 w.length w.length 1),(6,I p.1.2.1),(16,sl nn' t' (mI o)),(17,I o.length),(18,I p.1.1.1.length)],[.cells (mI p.1.2.2)])) (fun p => p.1.1.2.length)
    ⟨(([],o),Sp.fullS w.length,List.replicate w.length 0),rfl,⟨(Sp.left_full g6).set,(Sp.left_full g6).lt,Nat.le_trans ho (Sp.left_full g6).pc⟩,by simp,rfl⟩ [some 0] (Wk.mk0 rfl (by simp [imgs,Blk.alive]) (by simp [hle,csle,mI_rep,mI_bnd]) (by simp [fle,vle,Fr.get,mS_bnd,mI_bnd,Sp.fullS,Sp.shl1,IntKind.bits])) ?_
  rintro ⟨⟨⟨pre,suf⟩,left,D⟩,hp,hleft,hD,hinv⟩
  dsimp only at hp hleft hD hinv
  subst hp
  have hlen : (pre ++ suf).length < 9223372036854775808 := by omega
  cases suf with
  | nil =>
    simp only [w62L0,w62T1,go_sem,Nat.reduceEqDiff,Nat.reduceAdd,Nat.reduceLT,Nat.reduceLeDiff,reduceIte,reduceCtorEq]
    rw [List.append_nil] at hinv
    have hDe : D = Sp.turnsP w pre := by rw [← hinv,Sp.turnsG]
    rw [hDe]
    exact leafO _ _ [some 0] (Wk.mk0 rfl (by simp [imgs,Blk.alive]) (by simp [hle,csle,mI_bnd]) (by simp [fle,vle,Fr.get,Sp.turnsP_len])) ⟨rfl,rfl⟩
  | cons x suf =>
    obtain ⟨hx0,hxn⟩ := hr x (by simp)
    obtain ⟨i,rfl⟩ : ∃ i : Nat,x = i := ⟨x.toNat,by omega⟩
    have hi : i < w.length := by omega
    have hi' : (i : Int) < w.length := by omega
    obtain ⟨c,hc,hb,hcl⟩ := hleft.best g hi
    have hiD : i < D.length := by omega
    have hbest : ∀ H,CallV Try.prog (.fn (.func 81) [] []) [.sl nn t (mS w),I i,I left] H fun v H' => v = I c ∧ H' = H := fun H => by
      rw [← hb]
      exact liftV (s81 nn t w i left hi (fun c hc => (g.rng _ (Sp.getD_mem hi) c hc).1) (by have := g.len _ (Sp.getD_mem (d := []) hi); omega) (hleft.bit g hi)) (by simp [bndL,AVal.bnd,mS_bnd]) rfl H
    have hset : (D.set i c).length = w.length := by rw [List.length_set,hD]
    have hiS : i < (D.set i (c : Int)).length := by omega
    have hget : (D.set i (c : Int)).getD i 0 = c := by simp [List.getD_eq_getElem?_getD,hiD]
    simp only [w62L0,hi',go_sem,Nat.reduceEqDiff,Nat.reduceAdd,Nat.reduceLT,Nat.reduceLeDiff,reduceIte,reduceCtorEq]
    refine CallK.pure (hbest _) ?_
    have hwk : IntKind.i64.wrap ((pre.length : Int) + 1) = pre.length + 1 := wrap64 (by simp at hlen; omega) (by simp at hlen; omega)
    simp only [hi',mI_put,Sp.put_set,hiD,hiS,mI_hd,hget,go_sem,Nat.reduceEqDiff,Nat.reduceAdd,Nat.reduceLT,Nat.reduceLeDiff,reduceIte,reduceCtorEq]
    refine ⟨by omega,by omega,?_⟩
    refine round1 rfl ⟨((pre ++ [(i : Int)],suf),Sp.butI left (Sp.shl1 c),D.set i c),by simp,hleft.step (by omega),hset,by rw [← hinv,Sp.turnsG,Int.toNat_natCast,hb]⟩ [some 0] (by simp) (Wk.mk0 rfl (by simp [imgs,Blk.alive]) (by simp [hle,csle,mI_bnd]) (by simp [fle,vle,Fr.get,hwk,mS_bnd,mI_bnd,Sp.butI,Sp.shl1,IntKind.bits]))
theorem s43o (t : Bool) (xs : List Int) (h1 : 1 ≤ xs.length) (hl : xs.length ≤ 137438953472) : Abs.Spec Try.prog 43 [.sl false t (mI xs)] [] fun v H' => v = .own 0 0 xs.length xs.length 1 ∧ H' = [.cells (mI xs)] := by
  refine Spec.split_nil (fun h => by have : xs = [] := by simpa [mI] using h
                                     subst this; simp at h1) ?_
  refine Abs.Spec.walk mixed fn43 nn43 t43 q43 nt43 (by simp) ?_
  have h0 : ¬ xs.length ≤ 0 := by omega
  simp only [w43,h0,go_sem,Nat.reduceEqDiff,Nat.reduceAdd,Nat.reduceLT,Nat.reduceLeDiff,reduceIte,reduceCtorEq]
  refine ⟨by omega,?_⟩
  exact leafO _ _ [some 1] (Wk.mk0 rfl (by simp [imgs,Blk.alive]) (by simp [hle,csle,mI_bnd]) (by simp [fle,vle,Fr.get])) ⟨rfl,rfl⟩
def orderP (w : List (List Int)) (d : List Int) : Option (List Int) := (Sp.allDeals w.length).find? fun o => Sp.turnsP w o == d
def orderA (w : List (List Int)) (d : List Int) : AVal := if Sp.valid w && Sp.isOrder d w.length then (match orderP w d with
  | some o => .tup [.sl false false (mI o),I 0]
  | none => .tup [.sl false false (mI []),I 4]) else .tup [.sl false false (mI []),I 2]
noncomputable def rngLoop (st : LoopState) (pend : Option Code) (fr : Fr) : Blk := .loop st pend fr 34 #[26] (asOf Try.f31 0) (bdOf Try.f31 0)
noncomputable def Hp31 (w : List (List Int)) (d : List Int) (fr : Fr) : AHeap := [.cells [.sl false false (mI d)],.cells [nilSl],.cells [I 0],.cells [.sl false false (mS w)],.defs,rngLoop .ready none fr]
noncomputable def Hs31 (w : List (List Int)) (d : List Int) (fr : Fr) (o : List Int) : AHeap := [.cells [.sl false false (mI d)],.cells [.sl false false (mI o)],.cells [I 0],.cells [.sl false false (mS w)],.defs,rngLoop .done (some .ret) fr]
theorem ok31 {w : List (List Int)} {d : List Int} {fr : Fr} {B : Nat} (hb : (fr.all fun p => p.2.bnd B) = true) (o : List Int) : (∀ x ∈ Hp31 w d fr,blkOk B x = true) ∧ ∀ x ∈ Hs31 w d fr o,blkOk B x = true := by
  constructor <;> intro x hx <;> simp only [Hp31,Hs31,List.mem_cons,List.not_mem_nil,or_false] at hx <;> rcases hx with rfl | rfl | rfl | rfl | rfl | rfl <;> first | exact hb | simp [blkOk,bndL,AVal.bnd,mI_bnd,mS_bnd,vid]
set_option maxHeartbeats 2000000 in
theorem y31 {w : List (List Int)} {d : List Int} {fr : Fr} (g : Sp.Good w) (hd : d.length < 9223372036854775808) (h3 : fr.get 3 = ptr 0 0) (h4 : fr.get 4 = ptr 1 0) (h5 : fr.get 5 = ptr 2 0) (h6 : fr.get 6 = ptr 3 0) (hb : (fr.all fun p => p.2.bnd 10) = true) (set : Int) (D : List Int) (hD : DOk w.length set D) :
    CallV Try.prog (.yld 5) [.own 7 0 w.length w.length 1] (HS (Hp31 w d fr) 6 5 w.length set D) fun v H' => ((Sp.turnsP w D == d) = false ∧ v = B true ∧ H' = HS (Hp31 w d fr) 6 5 w.length set D) ∨ ((Sp.turnsP w D == d) = true ∧ v = B false ∧ H' = HS (Hs31 w d fr D) 6 5 w.length set D) := by
  have g1 := g.n1
  have g6 := g.n6
  have hDl := hD.len
  refine CallV.yldW mixed (L := 5) (fr := fr) (n := 34) (ps := [26]) rfl t31R0a t31R0b rfl (by simp) ?_
  simp only [w31R0a,putArgs,go_sem,Nat.reduceEqDiff,Nat.reduceAdd,Nat.reduceLT,Nat.reduceLeDiff,reduceIte,reduceCtorEq]
  refine ⟨rfl,?_⟩
  have hlend : ∀ H' : AHeap,H'[7]? = some (.cells (mI D)) → vle.vleL H' [] [] 3 [.own 7 0 w.length w.length 1] [.sl false false (mI D)] := fun H' hH => ⟨vle_mI hH (by simp) hDl.symm (by rw [← hDl,take_mI]),trivial⟩
  simp only [w31R0b,HS,Hp31,rngLoop,h6,go_sem,Nat.reduceEqDiff,Nat.reduceAdd,Nat.reduceLT,Nat.reduceLeDiff,reduceIte,reduceCtorEq]
  have htl := Sp.turnsP_len w D
  refine ⟨by simp,CallKD.fills (by omega) (fun H' hf => CallV.of_spec (Spec.lendInts (s62o false false false false w D g (by omega) hD.rng) ⟨⟨mS_bnd,fun h => h,fun h => h,rfl⟩,(hlend H' (hf 7 _ rfl (by simp))).1,trivial⟩)) ?_⟩
  simp only [h3,go_sem,Nat.reduceEqDiff,Nat.reduceAdd,Nat.reduceLT,Nat.reduceLeDiff,reduceIte,reduceCtorEq]
  refine CallKD.pure (liftV (s20 false false false false (Sp.turnsP w D) d (by omega)) (by simp [bndL,AVal.bnd,mI_bnd]) rfl) ?_
  simp only [go_sem,Nat.reduceEqDiff,Nat.reduceAdd,Nat.reduceLT,Nat.reduceLeDiff,reduceIte,reduceCtorEq]
  refine IC.split (fun hp => ?_) fun hp => ?_
  · simp only [go_sem,Nat.reduceEqDiff,Nat.reduceAdd,Nat.reduceLT,Nat.reduceLeDiff,reduceIte,reduceCtorEq]
    refine CallK.pure (CallV.of_spec (Spec.lendInts (s43o false D (by omega) (by omega)) (hlend _ rfl))) ?_
    simp only [h4,h5,go_sem,Nat.reduceEqDiff,Nat.reduceAdd,Nat.reduceLT,Nat.reduceLeDiff,reduceIte,reduceCtorEq]
    exact ⟨idρ 10,HS (Hs31 w d fr D) 6 5 w.length set D,WkB (B := 10) rfl (HS_ok D (by omega) (ok31 hb D).2) (by simp),.inr ⟨hp,rfl,rfl⟩⟩
  · simp only [go_sem,Nat.reduceEqDiff,Nat.reduceAdd,Nat.reduceLT,Nat.reduceLeDiff,reduceIte,reduceCtorEq]
    exact ⟨idρ 10,HS (Hp31 w d fr) 6 5 w.length set D,WkB (B := 10) rfl (HS_ok D (by omega) (ok31 hb D).1) (by simp),.inl ⟨hp,rfl,rfl⟩⟩
set_option maxHeartbeats 2000000 in
theorem s31r {w : List (List Int)} {d : List Int} {fr : Fr} (g : Sp.Good w) (hd : d.length < 9223372036854775808) (h3 : fr.get 3 = ptr 0 0) (h4 : fr.get 4 = ptr 1 0) (h5 : fr.get 5 = ptr 2 0) (h6 : fr.get 6 = ptr 3 0) (h25 : fr.get 25 = .fn (.func 82) [] [.rp [I w.length],.rp [I (Sp.fullS w.length)]])
    (hb6 : (fr.all fun p => p.2.bnd 6) = true) (hb10 : (fr.all fun p => p.2.bnd 10) = true)
    (hA : orderA w d = match orderP w d with
      | some o => .tup [.sl false false (mI o),I 0]
      | none => .tup [.sl false false (mI []),I 4]) :
    W ⟨Try.prog,0,34,true⟩ (retA 0 r31 fun v H' => H' = [] ∧ v = orderA w d) (.range (.t 25) [26] (asOf Try.f31 0) (bdOf Try.f31 0)) [.block 0,.seq c31T0] fr
      [.cells [.sl false false (mI d)],.cells [nilSl],.cells [I 0],.cells [.sl false false (mS w)]] [] := by
  refine W_range rfl h25 ((s82 (Hp := Hp31 w d fr) (Hs := Hs31 w d fr) (b := 6) (L := 5) (n := w.length) (set := Sp.fullS w.length) (p := fun o => Sp.turnsP w o == d) rfl (by omega) g.n1 g.n6 (ok31 hb6 []).1 (ok31 hb10 []).1 (fun _ => rfl) (fun o => (ok31 hb6 o).2) (fun o => (ok31 hb10 o).2) (fun D hD => y31 g hd h3 h4 h5 h6 hb10 _ D hD)).mono fun v H' hv => ?_)
  rw [Sp.comps_all g.n6] at hv
  unfold allR at hv
  unfold orderP at hA
  cases hf : (Sp.allDeals w.length).find? fun o => Sp.turnsP w o == d with
  | none =>
    rw [hf] at hv hA
    dsimp only at hv hA
    subst hv
    refine ⟨.ready,none,rfl,(fun h => by cases h),?_⟩
    show KQ _ _ .norm _ _ _ _
    simp only [Hp31,w31T0,h4,h5,go_sem,Nat.reduceEqDiff,Nat.reduceAdd,Nat.reduceLT,Nat.reduceLeDiff,reduceIte,reduceCtorEq]
    exact leafCC nilSl (I 4) (.tup [.sl false false (mI []),I 4]) (p := 0 + 1 ≤ 1 ∧ (false = false → 1 = 1)) (q := 0 + 1 ≤ 1 ∧ (false = false → 1 = 1)) rfl (by rw [h4]; rfl) (by rw [h5]; rfl) ⟨by simp,by simp⟩ ⟨by simp,by simp⟩ ⟨⟨mI_bnd,rfl,rfl⟩,rfl,trivial⟩ ⟨rfl,hA.symm⟩
  | some o =>
    rw [hf] at hv hA
    dsimp only at hv hA
    subst hv
    refine ⟨.done,some .ret,rfl,(fun h => by cases h),?_⟩
    show KQ _ _ .ret _ _ _ _
    simp only [Hs31,go_sem,Nat.reduceEqDiff,Nat.reduceAdd,Nat.reduceLT,Nat.reduceLeDiff,reduceIte,reduceCtorEq]
    exact leafCC (.sl false false (mI o)) (I 0) (.tup [.sl false false (mI o),I 0]) (p := 0 + 1 ≤ 1 ∧ (false = false → 1 = 1)) (q := 0 + 1 ≤ 1 ∧ (false = false → 1 = 1)) rfl (by rw [h4]; rfl) (by rw [h5]; rfl) ⟨by simp,by simp⟩ ⟨by simp,by simp⟩ ⟨⟨mI_bnd,fun h => h,fun h => h,rfl⟩,rfl,trivial⟩ ⟨rfl,hA.symm⟩
set_option maxHeartbeats 2000000 in
theorem s31 (w : List (List Int)) (d : List Int) (hw : ∀ l ∈ w,l.length < 9223372036854775808) (hl : w.length < 9223372036854775808) (hd : d.length < 9223372036854775808) :
    Abs.Spec Try.prog 31 [.sl false false (mS w),.sl false false (mI d)] [] fun v H' => H' = [] ∧ v = orderA w d := by
  refine Abs.Spec.walk mixed fn31 nn31 t31 q31 nt31 (by simp) ?_
  have eBad : (Sp.valid w && Sp.isOrder d w.length) = false → orderA w d = .tup [.sl false false (mI []),I 2] := fun h => by rw [orderA,h]; rfl
  simp only [w31R0a,w31R0b,w31T0,w31,go_sem,Nat.reduceEqDiff,Nat.reduceAdd,Nat.reduceLT,Nat.reduceLeDiff,reduceIte,reduceCtorEq]
  refine CallK.pure (liftV (s55 false false w hw hl) (by simp [bndL,AVal.bnd,mS_bnd]) rfl _) ?_
  simp only [go_sem,Nat.reduceEqDiff,Nat.reduceAdd,Nat.reduceLT,Nat.reduceLeDiff,reduceIte,reduceCtorEq]
  refine G.split (fun hv => ?_) fun hv => ?_
  · have hv : Sp.valid w = false := by simpa using hv
    simp only [go_sem,Nat.reduceEqDiff,Nat.reduceAdd,Nat.reduceLT,Nat.reduceLeDiff,reduceIte,reduceCtorEq]
    exact leafCC nilSl (I 2) (.tup [.sl false false (mI []),I 2]) rfl rfl rfl ⟨by simp,by simp⟩ ⟨by simp,by simp⟩ ⟨⟨mI_bnd,rfl,rfl⟩,rfl,trivial⟩ ⟨rfl,(eBad (by rw [hv]; rfl)).symm⟩
  have hv : Sp.valid w = true := by simpa using hv
  have g := Sp.valid_good hv
  have g1 := g.n1
  have g6 := g.n6
  simp only [go_sem,Nat.reduceEqDiff,Nat.reduceAdd,Nat.reduceLT,Nat.reduceLeDiff,reduceIte,reduceCtorEq]
  refine CallK.pure (liftV (s59 false false d w.length hd) (by simp [bndL,AVal.bnd,mI_bnd]) rfl _) ?_
  simp only [go_sem,Nat.reduceEqDiff,Nat.reduceAdd,Nat.reduceLT,Nat.reduceLeDiff,reduceIte,reduceCtorEq]
  refine IC.split (fun ha => ?_) fun ha => ?_
  · have ha : Sp.isOrder d w.length = false := by simpa using ha
    simp only [go_sem,Nat.reduceEqDiff,Nat.reduceAdd,Nat.reduceLT,Nat.reduceLeDiff,reduceIte,reduceCtorEq]
    exact leafCC nilSl (I 2) (.tup [.sl false false (mI []),I 2]) rfl rfl rfl ⟨by simp,by simp⟩ ⟨by simp,by simp⟩ ⟨⟨mI_bnd,rfl,rfl⟩,rfl,trivial⟩ ⟨rfl,(eBad (by rw [hv,ha]; rfl)).symm⟩
  have ha : Sp.isOrder d w.length = true := by simpa using ha
  have hA : orderA w d = match orderP w d with
    | some o => .tup [.sl false false (mI o),I 0]
    | none => .tup [.sl false false (mI []),I 4] := by rw [orderA,hv,ha]; rfl
  simp only [go_sem,Nat.reduceEqDiff,Nat.reduceAdd,Nat.reduceLT,Nat.reduceLeDiff,reduceIte,reduceCtorEq]
  refine CallK.pure (liftV (s63 w.length (Sp.fullS w.length)) (by simp [bndL,AVal.bnd]) (by simp [bndL,AVal.bnd]) _) ?_
  simp only [go_sem,Nat.reduceEqDiff,Nat.reduceAdd,Nat.reduceLT,Nat.reduceLeDiff,reduceIte,reduceCtorEq]
  exact s31r g hd rfl rfl rfl rfl rfl (by simp [AVal.bnd,bndL,mI_bnd,mS_bnd]) (by simp [AVal.bnd,bndL,mI_bnd,mS_bnd]) hA
open Go.Abs AVal
variable {n : Nat}
section
variable (hn : n ≤ 6)
include hn
end
open Go.Abs AVal
open Go.Abs AVal
def half (k M : Int) (x : Int) : Int := IntKind.u64.wrap (bitsI .and .u64 (x.fdiv (2 ^ min (Int.toNat k) 64)) M + bitsI .and .u64 x M)
def fold4 (x : Int) : Int := bitsI .and .u64 (IntKind.u64.wrap (x.fdiv (2 ^ min (Int.toNat 4) 64) + x)) 1085102592571150095
def foldS (k : Int) (x : Int) : Int := IntKind.u64.wrap (x + x.fdiv (2 ^ min (Int.toNat k) 64))
def ones (m : Int) : Int := bitsI .and .i64 (IntKind.i64.wrap (foldS 32 (foldS 16 (foldS 8 (fold4 (half 2 3689348814741910323 (half 1 6148914691236517205 m))))))) 127
theorem s67 (nn t nn' t' nn2 t2 : Bool) (w : List (List Int)) (set : Int) (a b : List Int) (g : Sp.Good w) (ha : a.length = w.length) (hb : b.length = w.length) :
    Abs.Spec Try.prog 67 [.sl nn t (mS w),I set,.sl nn' t' (mI a),.sl nn2 t2 (mI b)] [] fun v H' => H' = [] ∧ v = .tup [I (Sp.betterN w set a b w.length),I (Sp.worseN w set a b w.length)] := by
  have g1 := g.n1
  have g6 := g.n6
  refine Abs.Spec.walk mixed fn67 nn67 t67 q67 nt67 (by simp) ?_
  simp only [w67,go_sem,Nat.reduceEqDiff,Nat.reduceAdd,Nat.reduceLT,Nat.reduceLeDiff,reduceIte,reduceCtorEq]
  refine W_loop (fun q : { i : Nat // i ≤ w.length } => ([(0,sl nn t (mS w)),(1,I set),(2,sl nn' t' (mI a)),(3,sl nn2 t2 (mI b)),(8,I (Sp.betterN w set a b q.1)),(9,I (Sp.worseN w set a b q.1)),(14,I w.length),(15,I q.1)],[])) (fun q => w.length - q.1)
    ⟨0,by omega⟩ [] (Wk.nil (by simp [fle,vle,Fr.get,mS_bnd,mI_bnd,Sp.betterN,Sp.worseN])) ?_
  rintro ⟨i,hin⟩
  dsimp only
  have hc := Sp.countN_le w set a b i
  by_cases hi : i < w.length
  · have hz : decide ((i : Int) < w.length) = true := decide_eq_true (by omega)
    have hwc : IntKind.i64.wrap ((i : Int) + 1) = ((i + 1 : Nat) : Int) := by rw [wrap64 (by omega) (by omega)]; rfl
    have hb1 : IntKind.i64.wrap ((Sp.betterN w set a b i : Int) + 1) = ((Sp.betterN w set a b i + 1 : Nat) : Int) := by rw [wrap64 (by omega) (by omega)]; rfl
    have hb2 : IntKind.i64.wrap ((Sp.worseN w set a b i : Int) + 1) = ((Sp.worseN w set a b i + 1 : Nat) : Int) := by rw [wrap64 (by omega) (by omega)]; rfl
    have hbs := Sp.betterN_succ w set a b i
    have hws := Sp.worseN_succ w set a b i
    simp only [w67L0,hz,go_sem,Nat.reduceEqDiff,Nat.reduceAdd,Nat.reduceLT,Nat.reduceLeDiff,reduceIte,reduceCtorEq]
    refine IC.split (fun ho => ?_) fun ho => ?_
    · have ho : Sp.outS set i = true := ho
      rw [ho] at hbs hws
      simp only [hwc,go_sem,Nat.reduceEqDiff,Nat.reduceAdd,Nat.reduceLT,Nat.reduceLeDiff,reduceIte,reduceCtorEq]
      refine round0 rfl ⟨i + 1,hi⟩ (by dsimp only; omega) rfl ?_
      simp [fle,vle,Fr.get,mS_bnd,mI_bnd,hbs,hws]
    · have ho : Sp.outS set i = false := ho
      have hia : i < a.length := by omega
      have hib : i < b.length := by omega
      have hgl : (w.getD i []).length < 9223372036854775808 := by have := g.len _ (Sp.getD_mem (d := []) hi); omega
      rw [ho] at hbs hws
      simp only [Bool.not_false,Bool.true_and,Sp.lessAt,decide_eq_true_eq] at hbs hws
      have hA : ∀ x : Int,∀ H,CallV Try.prog (.fn (.func 61) [] []) [.sl nn t (mS w),I i,I x] H fun v H' => v = I (Sp.pos w i x) ∧ H' = H := fun x H => liftV (s61 nn t w i x hi hgl) (by simp [bndL,AVal.bnd,mS_bnd]) rfl H
      simp only [hia,hib,mI_get,mI_hd,go_sem,Nat.reduceEqDiff,Nat.reduceAdd,Nat.reduceLT,Nat.reduceLeDiff,reduceIte,reduceCtorEq]
      refine ⟨by omega,by simp,?_⟩
      refine CallKD.pure (hA _) ?_
      simp only [hia,hib,mI_get,mI_hd,go_sem,Nat.reduceEqDiff,Nat.reduceAdd,Nat.reduceLT,Nat.reduceLeDiff,reduceIte,reduceCtorEq]
      refine ⟨by omega,?_⟩
      refine CallKD.pure (hA _) ?_
      simp only [go_sem,Nat.reduceEqDiff,Nat.reduceAdd,Nat.reduceLT,Nat.reduceLeDiff,reduceIte,reduceCtorEq]
      refine IC.splitP (fun h => ?_) fun h => ?_
      · rw [if_pos h] at hbs
        rw [if_neg (by omega)] at hws
        simp only [hwc,hb1,go_sem,Nat.reduceEqDiff,Nat.reduceAdd,Nat.reduceLT,Nat.reduceLeDiff,reduceIte,reduceCtorEq]
        refine round0 rfl ⟨i + 1,hi⟩ (by dsimp only; omega) rfl ?_
        simp [fle,vle,Fr.get,mS_bnd,mI_bnd,hbs,hws]
      · rw [if_neg h] at hbs
        simp only [go_sem,Nat.reduceEqDiff,Nat.reduceAdd,Nat.reduceLT,Nat.reduceLeDiff,reduceIte,reduceCtorEq]
        refine IC.splitP (fun h' => ?_) fun h' => ?_
        · rw [if_pos (by omega)] at hws
          simp only [hwc,hb2,go_sem,Nat.reduceEqDiff,Nat.reduceAdd,Nat.reduceLT,Nat.reduceLeDiff,reduceIte,reduceCtorEq]
          refine round0 rfl ⟨i + 1,hi⟩ (by dsimp only; omega) rfl ?_
          simp [fle,vle,Fr.get,mS_bnd,mI_bnd,hbs,hws]
        · rw [if_neg (by omega)] at hws
          simp only [hwc,go_sem,Nat.reduceEqDiff,Nat.reduceAdd,Nat.reduceLT,Nat.reduceLeDiff,reduceIte,reduceCtorEq]
          refine round0 rfl ⟨i + 1,hi⟩ (by dsimp only; omega) rfl ?_
          simp [fle,vle,Fr.get,mS_bnd,mI_bnd,hbs,hws]
  · have hz : decide ((i : Int) < w.length) = false := decide_eq_false (by omega)
    obtain rfl : i = w.length := by omega
    simp only [w67L0,hz,w67T1,go_sem,Nat.reduceEqDiff,Nat.reduceAdd,Nat.reduceLT,Nat.reduceLeDiff,reduceIte,reduceCtorEq]
    exact leaf2 (.tup [I (Sp.betterN w set a b w.length),I (Sp.worseN w set a b w.length)]) ⟨rfl,rfl,trivial⟩ ⟨rfl,rfl⟩
open Go.Abs AVal
open Go.Abs AVal
def wasteO (w : List (List Int)) (d : List Int) : Option (List Int) := (Sp.allDeals w.length).find? (Sp.blkP w d (Sp.fullS w.length) false)
def wasteR (w : List (List Int)) (d : List Int) : AVal := match wasteO w d with
  | some o => .tup [.sl false false (mI o),I 0]
  | none => .tup [.sl false false (mI []),I 4]
def wasteA (w : List (List Int)) (d : List Int) : AVal := if Sp.valid w && Sp.isOrder d w.length then wasteR w d else .tup [.sl false false (mI []),I 2]
noncomputable def rng39 (st : LoopState) (pend : Option Code) (fr : Fr) : Blk := .loop st pend fr 48 #[28] (asOf Try.f39 0) (bdOf Try.f39 0)
noncomputable def Hp39 (w : List (List Int)) (d : List Int) (fr : Fr) : AHeap := [.cells [.sl false false (mS w)],.cells [.sl false false (mI d)],.cells [nilSl],.cells [I 0],.cells [.sl false false (mS w)],.defs,rng39 .ready none fr]
noncomputable def Hs39 (w : List (List Int)) (d : List Int) (fr : Fr) (o : List Int) : AHeap := [.cells [.sl false false (mS w)],.cells [.sl false false (mI d)],.cells [.sl false false (mI o)],.cells [I 0],.cells [.sl false false (mS w)],.defs,rng39 .done (some .ret) fr]
theorem ok39 {w : List (List Int)} {d : List Int} {fr : Fr} {B : Nat} (hb : (fr.all fun p => p.2.bnd B) = true) (o : List Int) : (∀ x ∈ Hp39 w d fr,blkOk B x = true) ∧ ∀ x ∈ Hs39 w d fr o,blkOk B x = true := by
  constructor <;> intro x hx <;> simp only [Hp39,Hs39,List.mem_cons,List.not_mem_nil,or_false] at hx <;> rcases hx with rfl | rfl | rfl | rfl | rfl | rfl | rfl <;> first | exact hb | simp [blkOk,bndL,AVal.bnd,mI_bnd,mS_bnd,vid]
set_option maxHeartbeats 2000000 in
theorem y39 {w : List (List Int)} {d : List Int} {fr : Fr} (g : Sp.Good w) (hd : d.length = w.length) (h2 : fr.get 2 = ptr 0 0) (h3 : fr.get 3 = ptr 1 0) (h4 : fr.get 4 = ptr 2 0) (h5 : fr.get 5 = ptr 3 0) (h6 : fr.get 6 = ptr 4 0) (hb : (fr.all fun p => p.2.bnd 11) = true) (set : Int) (D : List Int) (hD : DOk w.length set D) :
    CallV Try.prog (.yld 6) [.own 8 0 w.length w.length 1] (HS (Hp39 w d fr) 7 6 w.length set D) fun v H' => (Sp.blkP w d (Sp.fullS w.length) false D = false ∧ v = B true ∧ H' = HS (Hp39 w d fr) 7 6 w.length set D) ∨ (Sp.blkP w d (Sp.fullS w.length) false D = true ∧ v = B false ∧ H' = HS (Hs39 w d fr D) 7 6 w.length set D) := by
  have g1 := g.n1
  have g6 := g.n6
  have hDl := hD.len
  refine CallV.yldW mixed (L := 6) (fr := fr) (n := 48) (ps := [28]) rfl t39R0a t39R0b rfl (by simp) ?_
  simp only [w39R0a,putArgs,go_sem,Nat.reduceEqDiff,Nat.reduceAdd,Nat.reduceLT,Nat.reduceLeDiff,reduceIte,reduceCtorEq]
  refine ⟨rfl,?_⟩
  have hlend : ∀ H' : AHeap,H'[8]? = some (.cells (mI D)) → vle.vleL H' [] [] 3 [.own 8 0 w.length w.length 1] [.sl false false (mI D)] := fun H' hH => ⟨vle_mI hH (by simp) hDl.symm (by rw [← hDl,take_mI]),trivial⟩
  simp only [w39R0b,HS,Hp39,rng39,h2,h3,h6,go_sem,Nat.reduceEqDiff,Nat.reduceAdd,Nat.reduceLT,Nat.reduceLeDiff,reduceIte,reduceCtorEq]
  have hcn := Sp.countN_le w (Sp.fullS w.length) D d w.length
  have hP : Sp.blkP w d (Sp.fullS w.length) false D = (Sp.worseN w (Sp.fullS w.length) D d w.length == 0 && decide (0 < Sp.betterN w (Sp.fullS w.length) D d w.length)) := by
    unfold Sp.blkP
    rw [Bool.not_false,Bool.true_or,Bool.and_true]
  have go : ∀ x,Sp.blkP w d (Sp.fullS w.length) false D = x → ∃ ρ H3,Wk 11 [] ρ [] (HS (if x then Hs39 w d fr D else Hp39 w d fr) 7 6 w.length set D) [] H3 ∧ ((Sp.blkP w d (Sp.fullS w.length) false D = false ∧ B (!x) = B true ∧ H3 = HS (Hp39 w d fr) 7 6 w.length set D) ∨ (Sp.blkP w d (Sp.fullS w.length) false D = true ∧ B (!x) = B false ∧ H3 = HS (Hs39 w d fr D) 7 6 w.length set D)) := fun x h => by
    cases x with
    | false => exact ⟨idρ 11,_,WkB (B := 11) rfl (HS_ok D (by omega) (ok39 hb D).1) (by simp),.inl ⟨h,rfl,rfl⟩⟩
    | true => exact ⟨idρ 11,_,WkB (B := 11) rfl (HS_ok D (by omega) (ok39 hb D).2) (by simp),.inr ⟨h,rfl,rfl⟩⟩
  refine CallKD.by (CallV.of_spec (Spec.lend (s67 false false false false false false w (Sp.fullS w.length) D d g hDl hd) rfl ⟨⟨mS_bnd,fun h => h,fun h => h,rfl⟩,rfl,(hlend _ rfl).1,⟨mI_bnd,fun h => h,fun h => h,rfl⟩,trivial⟩)) fun v H' ⟨q1,q2⟩ => ?_
  subst q1 q2
  generalize Sp.worseN w (Sp.fullS w.length) D d w.length = Wn at hP hcn
  generalize Sp.betterN w (Sp.fullS w.length) D d w.length = Bn at hP hcn
  have e0 : ((Wn : Int) == 0) = (Wn == 0) := by rw [Bool.eq_iff_iff,beq_iff_eq,beq_iff_eq]; omega
  have e1 : decide ((Bn : Int) > 0) = decide (0 < Bn) := decide_eq_decide.2 (by omega)
  have e1' : decide (0 < (Bn : Int)) = decide (0 < Bn) := decide_eq_decide.2 (by omega)
  simp only [List.getD_cons_zero,List.getD_cons_succ,e0,e1,e1',go_sem,Nat.reduceEqDiff,Nat.reduceAdd,Nat.reduceLT,Nat.reduceLeDiff,reduceIte,reduceCtorEq]
  refine G.split (fun hw => ?_) fun hw => ?_
  · rw [hw,Bool.true_and] at hP
    simp only [e1,e1',go_sem,Nat.reduceEqDiff,Nat.reduceAdd,Nat.reduceLT,Nat.reduceLeDiff,reduceIte,reduceCtorEq]
    refine IC.split (fun h1 => ?_) fun h1 => ?_
    · rw [h1] at hP
      simp only [go_sem,Nat.reduceEqDiff,Nat.reduceAdd,Nat.reduceLT,Nat.reduceLeDiff,reduceIte,reduceCtorEq]
      refine CallK.pure (CallV.of_spec (Spec.lendInts (s43o false D (by omega) (by omega)) (hlend _ rfl))) ?_
      simp only [h4,h5,go_sem,Nat.reduceEqDiff,Nat.reduceAdd,Nat.reduceLT,Nat.reduceLeDiff,reduceIte,reduceCtorEq]
      exact go true hP
    · rw [h1] at hP
      simp only [go_sem,Nat.reduceEqDiff,Nat.reduceAdd,Nat.reduceLT,Nat.reduceLeDiff,reduceIte,reduceCtorEq]
      exact go false hP
  · rw [hw,Bool.false_and] at hP
    simp only [go_sem,Nat.reduceEqDiff,Nat.reduceAdd,Nat.reduceLT,Nat.reduceLeDiff,reduceIte,reduceCtorEq]
    exact go false hP
set_option maxHeartbeats 2000000 in
theorem s39r {w : List (List Int)} {d : List Int} {fr : Fr} (g : Sp.Good w) (hd : d.length = w.length) (h2 : fr.get 2 = ptr 0 0) (h3 : fr.get 3 = ptr 1 0) (h4 : fr.get 4 = ptr 2 0) (h5 : fr.get 5 = ptr 3 0) (h6 : fr.get 6 = ptr 4 0) (h27 : fr.get 27 = .fn (.func 82) [] [.rp [I w.length],.rp [I (Sp.fullS w.length)]])
    (hb7 : (fr.all fun p => p.2.bnd 7) = true) (hb11 : (fr.all fun p => p.2.bnd 11) = true) :
    W ⟨Try.prog,0,48,true⟩ (retA 0 r39 fun v H' => H' = [] ∧ v = wasteR w d) (.range (.t 27) [28] (asOf Try.f39 0) (bdOf Try.f39 0)) [.block 0,.seq c39T0] fr
      [.cells [.sl false false (mS w)],.cells [.sl false false (mI d)],.cells [nilSl],.cells [I 0],.cells [.sl false false (mS w)]] [] := by
  refine W_range rfl h27 ((s82 (Hp := Hp39 w d fr) (Hs := Hs39 w d fr) (b := 7) (L := 6) (n := w.length) (set := Sp.fullS w.length) (p := Sp.blkP w d (Sp.fullS w.length) false) rfl (by omega) g.n1 g.n6 (ok39 hb7 []).1 (ok39 hb11 []).1 (fun _ => rfl) (fun o => (ok39 hb7 o).2) (fun o => (ok39 hb11 o).2) (fun D hD => y39 g hd h2 h3 h4 h5 h6 hb11 _ D hD)).mono fun v H' hv => ?_)
  rw [Sp.comps_all g.n6] at hv
  unfold allR at hv
  unfold wasteR wasteO
  cases hf : (Sp.allDeals w.length).find? (Sp.blkP w d (Sp.fullS w.length) false) with
  | none =>
    rw [hf] at hv
    dsimp only at hv
    subst hv
    refine ⟨.ready,none,rfl,(fun h => by cases h),?_⟩
    show KQ _ _ .norm _ _ _ _
    simp only [Hp39,w39T0,h4,h5,go_sem,Nat.reduceEqDiff,Nat.reduceAdd,Nat.reduceLT,Nat.reduceLeDiff,reduceIte,reduceCtorEq]
    exact leafCC nilSl (I 4) (.tup [.sl false false (mI []),I 4]) (p := 0 + 1 ≤ 1 ∧ (false = false → 1 = 1)) (q := 0 + 1 ≤ 1 ∧ (false = false → 1 = 1)) rfl (by rw [h4]; rfl) (by rw [h5]; rfl) ⟨by simp,by simp⟩ ⟨by simp,by simp⟩ ⟨⟨mI_bnd,rfl,rfl⟩,rfl,trivial⟩ ⟨rfl,rfl⟩
  | some o =>
    rw [hf] at hv
    dsimp only at hv
    subst hv
    refine ⟨.done,some .ret,rfl,(fun h => by cases h),?_⟩
    show KQ _ _ .ret _ _ _ _
    simp only [Hs39,go_sem,Nat.reduceEqDiff,Nat.reduceAdd,Nat.reduceLT,Nat.reduceLeDiff,reduceIte,reduceCtorEq]
    exact leafCC (.sl false false (mI o)) (I 0) (.tup [.sl false false (mI o),I 0]) (p := 0 + 1 ≤ 1 ∧ (false = false → 1 = 1)) (q := 0 + 1 ≤ 1 ∧ (false = false → 1 = 1)) rfl (by rw [h4]; rfl) (by rw [h5]; rfl) ⟨by simp,by simp⟩ ⟨by simp,by simp⟩ ⟨⟨mI_bnd,fun h => h,fun h => h,rfl⟩,rfl,trivial⟩ ⟨rfl,rfl⟩
set_option maxHeartbeats 2000000 in
theorem s39 (w : List (List Int)) (d : List Int) (hw : ∀ l ∈ w,l.length < 9223372036854775808) (hl : w.length < 9223372036854775808) (hd : d.length < 9223372036854775808) :
    Abs.Spec Try.prog 39 [.sl false false (mS w),.sl false false (mI d)] [] fun v H' => H' = [] ∧ v = wasteA w d := by
  refine Abs.Spec.walk mixed fn39 nn39 t39 q39 nt39 (by simp) ?_
  have eBad : (Sp.valid w && Sp.isOrder d w.length) = false → wasteA w d = .tup [.sl false false (mI []),I 2] := fun h => by rw [wasteA,h]; rfl
  simp only [w39R0a,w39R0b,w39T0,w39,go_sem,Nat.reduceEqDiff,Nat.reduceAdd,Nat.reduceLT,Nat.reduceLeDiff,reduceIte,reduceCtorEq]
  refine CallK.pure (liftV (s55 false false w hw hl) (by simp [bndL,AVal.bnd,mS_bnd]) rfl _) ?_
  simp only [go_sem,Nat.reduceEqDiff,Nat.reduceAdd,Nat.reduceLT,Nat.reduceLeDiff,reduceIte,reduceCtorEq]
  refine G.split (fun hv => ?_) fun hv => ?_
  · have hv : Sp.valid w = false := by simpa using hv
    simp only [go_sem,Nat.reduceEqDiff,Nat.reduceAdd,Nat.reduceLT,Nat.reduceLeDiff,reduceIte,reduceCtorEq]
    exact leafCC nilSl (I 2) (.tup [.sl false false (mI []),I 2]) rfl rfl rfl ⟨by simp,by simp⟩ ⟨by simp,by simp⟩ ⟨⟨mI_bnd,rfl,rfl⟩,rfl,trivial⟩ ⟨rfl,(eBad (by rw [hv]; rfl)).symm⟩
  have hv : Sp.valid w = true := by simpa using hv
  have g := Sp.valid_good hv
  have g1 := g.n1
  have g6 := g.n6
  simp only [go_sem,Nat.reduceEqDiff,Nat.reduceAdd,Nat.reduceLT,Nat.reduceLeDiff,reduceIte,reduceCtorEq]
  refine CallK.pure (liftV (s59 false false d w.length hd) (by simp [bndL,AVal.bnd,mI_bnd]) rfl _) ?_
  simp only [go_sem,Nat.reduceEqDiff,Nat.reduceAdd,Nat.reduceLT,Nat.reduceLeDiff,reduceIte,reduceCtorEq]
  refine IC.split (fun ha => ?_) fun ha => ?_
  · have ha : Sp.isOrder d w.length = false := by simpa using ha
    simp only [go_sem,Nat.reduceEqDiff,Nat.reduceAdd,Nat.reduceLT,Nat.reduceLeDiff,reduceIte,reduceCtorEq]
    exact leafCC nilSl (I 2) (.tup [.sl false false (mI []),I 2]) rfl rfl rfl ⟨by simp,by simp⟩ ⟨by simp,by simp⟩ ⟨⟨mI_bnd,rfl,rfl⟩,rfl,trivial⟩ ⟨rfl,(eBad (by rw [hv,ha]; rfl)).symm⟩
  have ha : Sp.isOrder d w.length = true := by simpa using ha
  have hA : wasteA w d = wasteR w d := by rw [wasteA,hv,ha]; rfl
  rw [hA]
  simp only [go_sem,Nat.reduceEqDiff,Nat.reduceAdd,Nat.reduceLT,Nat.reduceLeDiff,reduceIte,reduceCtorEq]
  refine CallKD.pure (liftV (s63 w.length (Sp.fullS w.length)) (by simp [bndL,AVal.bnd]) (by simp [bndL,AVal.bnd])) ?_
  simp only [go_sem,Nat.reduceEqDiff,Nat.reduceAdd,Nat.reduceLT,Nat.reduceLeDiff,reduceIte,reduceCtorEq]
  exact s39r g (Sp.order_spec g6 ha).1 rfl rfl rfl rfl rfl rfl (by simp [AVal.bnd,bndL,mI_bnd,mS_bnd]) (by simp [AVal.bnd,bndL,mI_bnd,mS_bnd])
open Go.Abs AVal
open Go.Abs AVal
open Go.Abs AVal
def growC (y q g n : Nat) (set : Int) : AVal := .fn (.func 83) [] [.rp [I n],.ptr y 0,.ptr q 0,.rp [I set],.ptr g 0]
theorem Cl.To.write {c : Cl} {b0 : Nat} {γ : c.Γ} {H H' : AHeap} (h : c.ok γ H) (hl : H.length ≤ H'.length) (hk : ∀ j,c.mine γ j → H'[j]? = H[j]?) (hb : ∀ j,j < b0 → H'[j]? = H[j]?) (hok : ∀ LP,HOk LP H → HOk LP H') : c.To b0 γ H γ H' :=
  ⟨c.frame γ H H' h hk,hok,hl,fun j hj _ => hb j hj,fun j hj => .inl hj⟩
section
variable {c : Cl} {b0 L n y q g k : Nat} {set : Int}
structure DSt (c : Cl) (b0 L n y q g k : Nat) (set : Int) (D : List Int) (γ : c.Γ) (H : AHeap) : Prop where
  ok : c.ok γ H
  hy : H[y]? = some (.cells [.yld L])
  hq : H[q]? = some (.cells [.own k 0 n n 1])
  hg : H[g]? = some (.cells [growC y q g n set])
  hk : H[k]? = some (.cells (mI D))
  my : ¬ c.mine γ y
  mq : ¬ c.mine γ q
  mg : ¬ c.mine γ g
  mkk : ¬ c.mine γ k
theorem DSt.keep {D : List Int} {γ γ1 : c.Γ} {H H1 : AHeap} (h : DSt c b0 L n y q g k set D γ H) (ht : c.To H.length γ H γ1 H1) : DSt c b0 L n y q g k set D γ1 H1 := by
  have lt : ∀ {j b},H[j]? = some b → j < H.length := fun hj => (List.getElem?_eq_some_iff.1 hj).1
  have nm : ∀ {j},j < H.length → ¬ c.mine γ j → ¬ c.mine γ1 j := fun hj hm hm' => (ht.own _ hm').elim hm fun h => by omega
  refine ⟨ht.ok,?_,?_,?_,?_,nm (lt h.hy) h.my,nm (lt h.hq) h.mq,nm (lt h.hg) h.mg,nm (lt h.hk) h.mkk⟩
  · rw [ht.kept _ (lt h.hy) h.my]; exact h.hy
  · rw [ht.kept _ (lt h.hq) h.mq]; exact h.hq
  · rw [ht.kept _ (lt h.hg) h.mg]; exact h.hg
  · rw [ht.kept _ (lt h.hk) h.mkk]; exact h.hk
theorem DSt.give {D : List Int} {γ : c.Γ} {H : AHeap} (h : DSt c b0 L n y q g k set D γ H) (hbk : b0 ≤ k) (kd : k ≠ y ∧ k ≠ q ∧ k ≠ g) (D' : List Int) : DSt c b0 L n y q g k set D' γ (H.set k (.cells (mI D'))) ∧ c.To b0 γ H γ (H.set k (.cells (mI D'))) := by
  have hkl := (List.getElem?_eq_some_iff.1 h.hk).1
  have kp : ∀ j,j ≠ k → (H.set k (.cells (mI D')))[j]? = H[j]? := fun j hj => List.getElem?_set_ne (Ne.symm hj)
  have hto : c.To b0 γ H γ (H.set k (.cells (mI D'))) := Cl.To.write h.ok (by simp) (fun j hj => kp j fun e => h.mkk (e ▸ hj)) (fun j hj => kp j (by omega)) fun LP h0 => h0.set (by simp [blkN,mI_bnd])
  exact ⟨⟨hto.ok,by rw [kp y kd.1.symm]; exact h.hy,by rw [kp q kd.2.1.symm]; exact h.hq,by rw [kp g kd.2.2.symm]; exact h.hg,by rw [List.getElem?_set_self hkl],h.my,h.mq,h.mg,h.mkk⟩,hto⟩
end
open Go.Abs AVal
section
variable {n : Nat} {fr : Fr} {w : List (List Int)}
structure G34 where
  L : List (List Int)
  j : Option (Nat × Nat)
def G34.out (q : G34) (H : AHeap) : Prop := match q.j with
  | none => H[1]? = some (.cells [nilSl]) ∧ q.L = []
  | some (j,lb) => H[1]? = some (.cells [.own j 0 q.L.length lb 1]) ∧ (∃ cs,H[j]? = some (.cells cs) ∧ cs.length = lb ∧ cs.take q.L.length = mS q.L) ∧ q.L.length ≤ lb ∧ j ≠ 1 ∧ j ≠ 3 ∧ j ≠ 0
theorem gather {q : G34} {Hb : AHeap} (hq : q.out Hb) (D : List Int) (hlen : q.L.length ≤ 16777216) (h2 : 3 < Hb.length) :
    ∃ (ov : AVal) (pr : Prop) (v' : AVal) (H2 : AHeap) (q' : G34) (H3 : AHeap),Hb[1]? = some (.cells [ov]) ∧ appB 1 24 ov (.own Hb.length 0 1 1 1) (Hb ++ [.cells [.sl false false (mI D)],.hole]) (Hb.length + 1) (fun H b => H.set (Hb.length + 1) b) = some (pr,v',H2) ∧ pr ∧ v'.cellsOk = true ∧ v'.cells = [v'] ∧ H2[1]? = some (.cells [ov]) ∧
      H3.length = Hb.length + 2 ∧ H2.length = Hb.length + 2 ∧ (∀ (i : Nat) (b : Blk),H3[i]? = some b → b = .dead ∨ (H2.set 1 (.cells [v']))[i]? = some b) ∧ q'.L = q.L ++ [D] ∧ q'.out H3 ∧ (∀ j,j < Hb.length → j ≠ 1 → (∀ lb,q.j ≠ some (j,lb)) → H3[j]? = Hb[j]?) ∧
      (∀ LP,HOk LP Hb → HOk LP H3) ∧ (∀ j lb,q'.j = some (j,lb) → q.j = some (j,lb) ∨ Hb.length ≤ j) := by
  have lt : ∀ {H : AHeap} {j b},H[j]? = some b → j < H.length := fun hj => (List.getElem?_eq_some_iff.1 hj).1
  obtain ⟨c,hc⟩ : ∃ c : Blk,Blk.cells [.sl false false (mI D)] = c := ⟨_,rfl⟩
  have hcok : ∀ LP N i,blkN LP N i c := fun LP N i => by rw [← hc]; simp [blkN,bndL,AVal.bnd,mI_bnd]
  have src : srcA 1 (.own Hb.length 0 1 1 1) (Hb ++ [c,.hole]) = some (1,[.sl false false (mI D)],(0 + 1 * 1 ≤ [AVal.sl false false (mI D)].length ∧ ∀ u ∈ [AVal.sl false false (mI D)],u.isCell = true)) := by
    rw [← hc]; simp [srcA]
  have pr0 : 0 + 1 * 1 ≤ [AVal.sl false false (mI D)].length ∧ ∀ u ∈ [AVal.sl false false (mI D)],u.isCell = true := ⟨by simp,by simp; rfl⟩
  have okc : ∀ LP,HOk LP Hb → ∀ b,blkN LP (Hb.length + 2) (Hb.length + 1) b → HOk LP (Hb ++ [c,b]) := fun LP h0 b hb => by
    have k1 := h0.push (b := c) (hcok _ _ _)
    have k2 := k1.push (b := b) (by rw [List.length_append]; exact hb)
    rwa [List.append_assoc] at k2
  have hsetl : (Hb ++ [c,.hole]).length = Hb.length + 2 := by simp
  rw [hc]
  unfold appB appA
  rw [src]
  dsimp only
  unfold G34.out at hq
  cases hj : q.j with
  | none =>
    rw [hj] at hq
    obtain ⟨h0,hL⟩ := hq
    have e : (Hb ++ [c,.hole]).set (Hb.length + 1) (.cells [.sl false false (mI D)]) = Hb ++ [c,.cells [.sl false false (mI D)]] := by rw [app_set]; rfl
    refine ⟨nilSl,_,_,_,⟨[D],some (Hb.length + 1,1)⟩,(Hb ++ [c,.cells [.sl false false (mI D)]]).set 1 (.cells [.own (Hb.length + 1) 0 1 1 1]),h0,rfl,⟨pr0,by omega⟩,rfl,rfl,?_,by simp,by simp,fun i b hi => .inr ?_,by rw [hL]; rfl,⟨?_,⟨[.sl false false (mI D)],?_,rfl,rfl⟩,by simp,by omega,by omega,by omega⟩,fun j hj1 hj0 _ => ?_,fun LP h9 => ?_,?_⟩
    · rw [e,List.getElem?_append_left (by omega)]; exact h0
    · rw [e]; exact hi
    · rw [List.getElem?_set_self (by simp)]; rfl
    · rw [List.getElem?_set_ne (by omega),app_get]; rfl
    · rw [List.getElem?_set_ne (by omega),List.getElem?_append_left hj1]
    · exact (okc LP h9 (.cells [.sl false false (mI D)]) (by simp [blkN,bndL,AVal.bnd,mI_bnd])).set (b := .cells [.own (Hb.length + 1) 0 1 1 1]) (by simp [blkN,vid])
    · intro j lb hjj
      simp at hjj
      right; omega
  | some p =>
    obtain ⟨j,lb⟩ := p
    rw [hj] at hq
    obtain ⟨h0,⟨cs,hcs,hcl,htk⟩,hle,hj0,hj2⟩ := hq
    have hjl := lt hcs
    have hcs1 : (Hb ++ [c,.hole])[j]? = some (.cells cs) := by rw [List.getElem?_append_left hjl]; exact hcs
    have e1 : 0 + q.L.length * 1 = q.L.length := by omega
    have e2 : 0 + q.L.length * 1 + 1 * 1 = q.L.length + 1 := by omega
    have e3 : q.L.length * 1 = q.L.length := by omega
    have hcells : cs.take q.L.length ++ [AVal.sl false false (mI D)] = mS (q.L ++ [D]) := by rw [htk,mS_one,mS_append]
    refine ⟨.own j 0 q.L.length lb 1,?_⟩
    dsimp only
    rw [if_pos rfl,hcs1]
    dsimp only
    by_cases hlt : q.L.length + 1 ≤ lb
    · rw [if_pos hlt,e2,e1,hcells]
      refine ⟨_,_,_,⟨q.L ++ [D],some (j,lb)⟩,(((Hb ++ [c,.dead]).set j (.cells (mS (q.L ++ [D]) ++ cs.drop (q.L.length + 1)))).set 1 (.cells [.own j 0 (q.L.length + 1) lb 1])),h0,rfl,⟨pr0,by omega⟩,rfl,rfl,?_,by simp,by simp,fun i b hi => ?_,rfl,⟨?_,⟨mS (q.L ++ [D]) ++ cs.drop (q.L.length + 1),?_,?_,?_⟩,by simp; omega,hj0,hj2⟩,fun i hi1 hi0 hi2 => ?_,fun LP h9 => ?_,?_⟩
      · rw [List.getElem?_set_ne hj0,List.getElem?_append_left (by omega)]; exact h0
      · by_cases hi9 : i = Hb.length + 1
        · subst hi9
          rw [List.getElem?_set_ne (by omega),List.getElem?_set_ne (by omega),app_get] at hi
          left; simpa using hi.symm
        · right
          rw [← hi]
          have hap : (Hb ++ [c,Blk.hole])[i]? = (Hb ++ [c,Blk.dead])[i]? := by
            rw [List.getElem?_append,List.getElem?_append]
            split
            · rfl
            · by_cases h7 : i - Hb.length = 0
              · rw [h7]; rfl
              · have : 2 ≤ i - Hb.length := by omega
                rw [List.getElem?_eq_none (by simpa using this),List.getElem?_eq_none (by simpa using this)]
          rw [List.getElem?_set,List.getElem?_set,List.getElem?_set,List.getElem?_set,hap]
          simp
      · rw [List.getElem?_set_self (by simp)]; simp
      · rw [List.getElem?_set_ne (Ne.symm hj0),List.getElem?_set_self (by simp; omega)]
      · rw [List.length_append,mS_length]; simp; omega
      · rw [List.take_append_of_le_length (by rw [mS_length]; exact Nat.le_refl _),List.take_of_length_le (by rw [mS_length]; exact Nat.le_refl _)]
      · rw [List.getElem?_set_ne (Ne.symm hi0),List.getElem?_set_ne (fun h => hi2 lb (by rw [h])),List.getElem?_append_left hi1]
      · refine ((okc LP h9 .dead trivial).set (i := j) (b := .cells (mS (q.L ++ [D]) ++ cs.drop (q.L.length + 1))) ?_).set (b := .cells [.own j 0 (q.L.length + 1) lb 1]) (by simp [blkN,vid]; omega)
        have hb := h9.cells hcs
        show (bndL 0 _ || List.all _ _) = true
        rw [Bool.or_eq_true] at hb ⊢
        rcases hb with hb | hb
        · left
          rw [bndL_append,mS_bnd,Bool.true_and]
          exact bndL_of fun u hu => bndL_mem hb u (List.mem_of_mem_drop hu)
        · right
          rw [List.all_append,Bool.and_eq_true]
          exact ⟨List.all_eq_true.2 fun u hu => by obtain ⟨z,_,rfl⟩ := List.mem_map.1 hu; exact mI_bnd,List.all_eq_true.2 fun u hu => vid_mono (by simp) 2 u (List.all_eq_true.1 hb u (List.mem_of_mem_drop hu))⟩
      · intro i lb' hii
        simp at hii
        left; rw [hii.1,hii.2]
    · rw [if_neg hlt,e3,hcells]
      refine ⟨_,_,_,⟨q.L ++ [D],some (Hb.length + 1,q.L.length + 1)⟩,(((Hb ++ [c,.cells (mS (q.L ++ [D]))]).set j .dead).set 1 (.cells [.own (Hb.length + 1) 0 (q.L.length + 1) (q.L.length + 1) 1])),h0,rfl,⟨pr0,by omega,by rw [htk,mS_isCell]; trivial,by omega⟩,rfl,rfl,?_,by simp,by simp,fun i b hi => .inr ?_,rfl,⟨?_,⟨mS (q.L ++ [D]),?_,?_,?_⟩,by simp,by omega,by omega,by omega⟩,fun i hi1 hi0 hi2 => ?_,fun LP h9 => ?_,?_⟩
      · rw [List.getElem?_set_ne (by omega),List.getElem?_set_ne hj0,List.getElem?_append_left (by omega)]; exact h0
      · rw [← hi]
        congr 2
        rw [List.set_comm _ _ (by omega),app_set]; rfl
      · rw [List.getElem?_set_self (by simp)]; simp
      · rw [List.getElem?_set_ne (by omega),List.getElem?_set_ne (by omega),app_get]; rfl
      · rw [mS_length]; simp
      · exact List.take_of_length_le (by rw [mS_length]; exact Nat.le_refl _)
      · rw [List.getElem?_set_ne (Ne.symm hi0),List.getElem?_set_ne (fun h => hi2 lb (by rw [h])),List.getElem?_append_left hi1]
      · exact ((okc LP h9 (.cells (mS (q.L ++ [D]))) (by simp [blkN,mS_bnd])).set (b := .dead) trivial).set (b := .cells [.own (Hb.length + 1) 0 (q.L.length + 1) (q.L.length + 1) 1]) (by simp [blkN,vid])
      · intro i lb' hii
        simp at hii
        right; omega
end
section
variable {c : Cl} {L n : Nat} {set : Int}
end
end Go.Proofs.Ytkmmngphcodjjaa
namespace Go.Abs.Sp
theorem deals_nodup {n : Nat} : ∀ (m : Nat) (b o : List Int),b.Nodup → o ∈ dealsR n m b → o.Nodup
  | 0,b,o,hb,ho => by simp [dealsR] at ho; subst ho; exact hb
  | m + 1,b,o,hb,ho => by
    simp only [dealsR,List.mem_flatMap,List.mem_range] at ho
    obtain ⟨x,hx,ho⟩ := ho
    split at ho
    · cases ho
    · rename_i hnx
      refine deals_nodup m _ o (List.nodup_append.2 ⟨hb,by simp,?_⟩) ho
      intro a ha b' hb' hab
      simp at hb'
      subst hb'; subst hab
      exact hnx ha
theorem all_order {n : Nat} (hn : n ≤ 6) {D : List Int} (h : D ∈ allDeals n) : isOrder D n = true := by
  obtain ⟨hl,hr⟩ := all_ok h
  rw [← all_eq (by omega),all,if_pos (allGo_of hn D 0 set0 hr (deals_nodup n [] D (by simp) h) fun x hx => has0 _ (by have := hr x hx; omega)),hl]; simp
end Go.Abs.Sp
namespace Go.Proofs.Ytkmmngphcodjjaa
open Go.Abs AVal
set_option linter.unusedSimpArgs false
attribute [local go_sem] W_skip W_keep KQ_canon canon Fr.norm W_seq W_block W_scope W_exit W_ret W_ops W_draw KQ_nil KQ_norm_seq KQ_exit_seq KQ_ret_seq KQ_norm_block KQ_ret_block KQ_exit_block KQ_exit_loop KQ_ret_loop O_nil O_cons S_call S_mv SE_mv SD_mv S_pick SE_pick SD_pick S_bin SE_bin SD_bin S_eqb SE_eqb SD_eqb S_eqv SE_eqv SD_eqv S_eqnil SE_eqnil SD_eqnil S_un SE_un SD_un S_conv SE_conv SD_conv S_mkfn SE_mkfn SD_mkfn S_load SE_load SD_load S_nilck SE_nilck SD_nilck S_slS SE_slS SD_slS S_slP SE_slP SD_slP S_fldA SE_fldA SD_fldA S_fld SE_fld SD_fld S_ixS SE_ixS SD_ixS S_ixP SE_ixP SD_ixP S_ixV SE_ixV SD_ixV S_ixStr SE_ixStr SD_ixStr S_ext SE_ext SD_ext S_len SE_len SD_len S_lenStr SE_lenStr SD_lenStr S_lenc SE_lenc SD_lenc S_mn SE_mn SD_mn S_mx SE_mx SD_mx S_build SE_build SD_build S_alloc SD_alloc S_box SD_box S_bslice SD_bslice S_mksl SD_mksl S_store SD_store S_append SD_append S_copy SD_copy S_clr SD_clr S_mlen SE_mlen SD_mlen S_mget SE_mget SD_mget S_mval SE_mval SD_mval S_mentry SE_mentry SD_mentry S_mkmap SD_mkmap S_mset SD_mset S_mrange SD_mrange S_mnext mlenA mgetA mvalA mentryA msetA mrangeA cells_mp isCell_mp cellsOk_mp aq_some aa_some al_some alA_some aqd_some aad_some ald_some ape_some D_done D_both D_early D_step SE_call SD_call IOpd.ev Fr.get Fr.put Fr.putd entryFr pickA binA binI isSh shI eqbA eqvA ints ints_mI Option.map_some eqnilA unA convA loadA nilckA intA slSA slPA fldAA fldVA ixSA ixPA ixVA ixStrA extA lenA lenStrA mnA mxA AVal.fits fillA fillOk buildA opa srcA appA stoA copA clrA rdFree zeros List.length_nil List.length_cons List.length_map List.map_cons List.map_nil Option.map_some Option.map_none if_true if_false ite_true ite_false true_and and_true and_self implies_true forall_const true_implies Bool.false_eq_true Bool.not_true Bool.not_false decide_eq_true_eq decide_eq_false_iff_not eq_self List.getElem?_cons_zero List.getElem?_cons_succ List.getElem?_nil List.set_cons_zero List.set_cons_succ List.nil_append List.cons_append List.append_nil List.replicate_zero List.replicate_succ Nat.zero_add false_implies rng_lt rng_end rng_get cells_I cells_B cells_sl cut_one Int.toNat_natCast Int.natCast_nonneg List.headD_cons Int.lt_irrefl not_false_eq_true decide_false decide_true mI_length mI_cells mI_sz mI_isCell mI_mid mI_append mI_take mI_drop cells_val cells_own cells_agg isCell_I isCell_B isCell_nil isCell_sl isCell_own isCell_ptr isCell_fn isCell_rp isCell_yld cellsOk_I cellsOk_B cellsOk_nil cellsOk_sl cellsOk_own cellsOk_ptr cellsOk_fn cellsOk_rp cellsOk_yld cellsOk_agg cells_nil cells_ptr cells_fn cells_rp List.all_cons List.all_nil Bool.and_true Nat.mul_one Nat.zero_mul Nat.one_mul List.take_zero List.take_nil List.drop_nil List.drop_zero List.not_mem_nil Nat.le_refl Nat.zero_le mS_length mS_cells mS_sz mS_isCell mS_mid mS_append mS_take mS_drop cells_sI isCell_sI cellsOk_sI sI_eq succ_le_self' List.take_succ_cons List.drop_succ_cons List.take_length beq_self_eq_true List.mem_cons or_false forall_eq mI_put mI_rep O_guard' D_earlyG' D_stepG' W_cond' G_tt G_tf G_ft G_ff GE_tt GE_tf GE_ft GE_ff GS_tt GS_tf GS_ft GS_ff G_u GE_u GS_u IC_t IC_f xft xff xtt xtf z00 z20 z22 z02 zz tn0
end Go.Proofs.Ytkmmngphcodjjaa
