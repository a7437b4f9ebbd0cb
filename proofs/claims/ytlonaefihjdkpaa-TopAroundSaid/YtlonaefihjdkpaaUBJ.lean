/- Contracts: copies of wishes,ranks,lies; Contracts: lying; Contract: the function of the statement about lies; Contract: the function of the statement that nobody does better by a lie; Contracts: choosing in turns; Contracts: all deals,one after the other; Contracts: the iterator over all deals; Contracts: the program's first order that makes a deal; Contracts: the reference's deals,and its first order; Contracts: the reference's first order,and the statement's function; Contracts: how deals compare,and how many are in a set; Contracts: which sets block a deal; Contracts: the first better deal; Contracts: the reference's first better deal,and its sets that block; Contracts: the reference's least set that blocks; Contracts: all deals,one after the other,for any client; Contracts: Core; Contracts: the reference's Core,EqualFunc,and the statement SwapsCores. -/
import Derived.Test.YtlonaefihjdkpaaUBE
import Derived.Test.YtlonaefihjdkpaaUCE
import Derived.Test.YtlonaefihjdkpaaPZ
import Derived.Test.YtlonaefihjdkpaaPO
import Derived.Test.YtlonaefihjdkpaaAS
import Derived.Test.YtlonaefihjdkpaaAN
namespace Go.Proofs.Ytlonaefihjdkpaa
open Go.Abs AVal
set_option linter.unusedSimpArgs false
attribute [local go_sem] W_skip W_keep KQ_canon canon Fr.norm W_seq W_block W_scope W_exit W_ret W_ops W_draw KQ_nil KQ_norm_seq KQ_exit_seq KQ_ret_seq KQ_norm_block KQ_ret_block KQ_exit_block KQ_exit_loop KQ_ret_loop O_nil O_cons S_call S_mv SE_mv SD_mv S_pick SE_pick SD_pick S_bin SE_bin SD_bin S_eqb SE_eqb SD_eqb S_eqv SE_eqv SD_eqv S_eqnil SE_eqnil SD_eqnil S_un SE_un SD_un S_conv SE_conv SD_conv S_mkfn SE_mkfn SD_mkfn S_load SE_load SD_load S_nilck SE_nilck SD_nilck S_slS SE_slS SD_slS S_slP SE_slP SD_slP S_fldA SE_fldA SD_fldA S_fld SE_fld SD_fld S_ixS SE_ixS SD_ixS S_ixP SE_ixP SD_ixP S_ixV SE_ixV SD_ixV S_ixStr SE_ixStr SD_ixStr S_ext SE_ext SD_ext S_len SE_len SD_len S_lenStr SE_lenStr SD_lenStr S_lenc SE_lenc SD_lenc S_mn SE_mn SD_mn S_mx SE_mx SD_mx S_build SE_build SD_build S_alloc SD_alloc S_box SD_box S_bslice SD_bslice S_mksl SD_mksl S_store SD_store S_append SD_append S_copy SD_copy S_clr SD_clr S_mlen SE_mlen SD_mlen S_mget SE_mget SD_mget S_mval SE_mval SD_mval S_mentry SE_mentry SD_mentry S_mkmap SD_mkmap S_mset SD_mset S_mrange SD_mrange S_mnext mlenA mgetA mvalA mentryA msetA mrangeA cells_mp isCell_mp cellsOk_mp aq_some aa_some al_some alA_some aqd_some aad_some ald_some ape_some D_done D_both D_early D_step SE_call SD_call IOpd.ev Fr.get Fr.put Fr.putd entryFr pickA binA binI isSh shI eqbA eqvA ints ints_mI Option.map_some eqnilA unA convA loadA nilckA intA slSA slPA fldAA fldVA ixSA ixPA ixVA ixStrA extA lenA lenStrA mnA mxA AVal.fits fillA fillOk buildA opa srcA appA stoA copA clrA rdFree zeros List.length_nil List.length_cons List.length_map List.map_cons List.map_nil Option.map_some Option.map_none if_true if_false ite_true ite_false true_and and_true and_self implies_true forall_const true_implies Bool.false_eq_true Bool.not_true Bool.not_false decide_eq_true_eq decide_eq_false_iff_not eq_self List.getElem?_cons_zero List.getElem?_cons_succ List.getElem?_nil List.set_cons_zero List.set_cons_succ List.nil_append List.cons_append List.append_nil List.replicate_zero List.replicate_succ Nat.zero_add false_implies rng_lt rng_end rng_get cells_I cells_B cells_sl cut_one Int.toNat_natCast Int.natCast_nonneg List.headD_cons Int.lt_irrefl not_false_eq_true decide_false decide_true mI_length mI_cells mI_sz mI_isCell mI_mid mI_append mI_take mI_drop cells_val cells_own cells_agg isCell_I isCell_B isCell_nil isCell_sl isCell_own isCell_ptr isCell_fn isCell_rp isCell_yld cellsOk_I cellsOk_B cellsOk_nil cellsOk_sl cellsOk_own cellsOk_ptr cellsOk_fn cellsOk_rp cellsOk_yld cellsOk_agg cells_nil cells_ptr cells_fn cells_rp List.all_cons List.all_nil Bool.and_true Nat.mul_one Nat.zero_mul Nat.one_mul List.take_zero List.take_nil List.drop_nil List.drop_zero List.not_mem_nil Nat.le_refl Nat.zero_le mS_length mS_cells mS_sz mS_isCell mS_mid mS_append mS_take mS_drop cells_sI isCell_sI cellsOk_sI sI_eq succ_le_self' List.take_succ_cons List.drop_succ_cons List.take_length beq_self_eq_true List.mem_cons or_false forall_eq mI_put mI_rep O_guard' D_earlyG' D_stepG' W_cond' G_tt G_tf G_ft G_ff GE_tt GE_tf GE_ft GE_ff GS_tt GS_tf GS_ft GS_ff G_u GE_u GS_u IC_t IC_f xft xff xtt xtf z00 z20 z22 z02 zz tn0
open Go.Abs AVal
open Go.Abs AVal
open Go.Abs AVal
open Go.Abs AVal
open Go.Abs AVal
structure DOk (n : Nat) (set : Int) (D : List Int) : Prop where
  len : D.length = n
  rng : ∀ x ∈ D,0 ≤ x ∧ x < n
  zero : ∀ j : Nat,j < n → (Sp.bitAt set j == 0) = true → D.getD j 0 = 0
theorem DOk.set {n : Nat} {set : Int} {D : List Int} (h : DOk n set D) {i c : Nat} (hc : c < n) (hb : (Sp.bitAt set i == 0) = false) : DOk n set (D.set i c) := by
  refine ⟨by rw [List.length_set]; exact h.len,fun x hx => ?_,fun j hj hz => ?_⟩
  · rcases List.mem_or_eq_of_mem_set hx with hx | rfl
    · exact h.rng x hx
    · omega
  · rw [List.getD_eq_getElem?_getD,List.getElem?_set]
    split
    · rename_i hij; subst hij; rw [hb] at hz; cases hz
    · have := h.zero j hj hz
      rwa [List.getD_eq_getElem?_getD] at this
open Go.Abs AVal
open Go.Abs AVal
open Go.Abs AVal
variable {n : Nat}
section
variable (hn : n ≤ 6)
include hn
end
open Go.Abs AVal
open Go.Abs AVal
def half (k M : Int) (x : Int) : Int := IntKind.u64.wrap (bitsI .and .u64 (x.fdiv (2 ^ min (Int.toNat k) 64)) M + bitsI .and .u64 x M)
def fold4 (x : Int) : Int := bitsI .and .u64 (IntKind.u64.wrap (x.fdiv (2 ^ min (Int.toNat 4) 64) + x)) 1085102592571150095
def foldS (k : Int) (x : Int) : Int := IntKind.u64.wrap (x + x.fdiv (2 ^ min (Int.toNat k) 64))
def ones (m : Int) : Int := bitsI .and .i64 (IntKind.i64.wrap (foldS 32 (foldS 16 (foldS 8 (fold4 (half 2 3689348814741910323 (half 1 6148914691236517205 m))))))) 127
open Go.Abs AVal
open Go.Abs AVal
open Go.Abs AVal
open Go.Abs AVal
open Go.Abs AVal
def growC (y q g n : Nat) (set : Int) : AVal := .fn (.func 83) [] [.rp [I n],.ptr y 0,.ptr q 0,.rp [I set],.ptr g 0]
section
variable {c : Cl} {b0 L n y q g k : Nat} {set : Int}
structure DSt (c : Cl) (b0 L n y q g k : Nat) (set : Int) (D : List Int) (γ : c.Γ) (H : AHeap) : Prop where
  ok : c.ok γ H
  hy : H[y]? = some (.cells [.yld L])
  hq : H[q]? = some (.cells [.own k 0 n n 1])
  hg : H[g]? = some (.cells [growC y q g n set])
  hk : H[k]? = some (.cells (mI D))
  my : ¬ c.mine γ y
  mq : ¬ c.mine γ q
  mg : ¬ c.mine γ g
  mkk : ¬ c.mine γ k
theorem DSt.keep {D : List Int} {γ γ1 : c.Γ} {H H1 : AHeap} (h : DSt c b0 L n y q g k set D γ H) (ht : c.To H.length γ H γ1 H1) : DSt c b0 L n y q g k set D γ1 H1 := by
  have lt : ∀ {j b},H[j]? = some b → j < H.length := fun hj => (List.getElem?_eq_some_iff.1 hj).1
  have nm : ∀ {j},j < H.length → ¬ c.mine γ j → ¬ c.mine γ1 j := fun hj hm hm' => (ht.own _ hm').elim hm fun h => by omega
  refine ⟨ht.ok,?_,?_,?_,?_,nm (lt h.hy) h.my,nm (lt h.hq) h.mq,nm (lt h.hg) h.mg,nm (lt h.hk) h.mkk⟩
  · rw [ht.kept _ (lt h.hy) h.my]; exact h.hy
  · rw [ht.kept _ (lt h.hq) h.mq]; exact h.hq
  · rw [ht.kept _ (lt h.hg) h.mg]; exact h.hg
  · rw [ht.kept _ (lt h.hk) h.mkk]; exact h.hk
end
open Go.Abs AVal
section
variable {n : Nat} {fr : Fr} {w : List (List Int)}
structure G34 where
  L : List (List Int)
  j : Option (Nat × Nat)
def G34.out (q : G34) (H : AHeap) : Prop := match q.j with
  | none => H[1]? = some (.cells [nilSl]) ∧ q.L = []
  | some (j,lb) => H[1]? = some (.cells [.own j 0 q.L.length lb 1]) ∧ (∃ cs,H[j]? = some (.cells cs) ∧ cs.length = lb ∧ cs.take q.L.length = mS q.L) ∧ q.L.length ≤ lb ∧ j ≠ 1 ∧ j ≠ 3 ∧ j ≠ 0
theorem gather {q : G34} {Hb : AHeap} (hq : q.out Hb) (D : List Int) (hlen : q.L.length ≤ 16777216) (h2 : 3 < Hb.length) :
    ∃ (ov : AVal) (pr : Prop) (v' : AVal) (H2 : AHeap) (q' : G34) (H3 : AHeap),Hb[1]? = some (.cells [ov]) ∧ appB 1 24 ov (.own Hb.length 0 1 1 1) (Hb ++ [.cells [.sl false false (mI D)],.hole]) (Hb.length + 1) (fun H b => H.set (Hb.length + 1) b) = some (pr,v',H2) ∧ pr ∧ v'.cellsOk = true ∧ v'.cells = [v'] ∧ H2[1]? = some (.cells [ov]) ∧
      H3.length = Hb.length + 2 ∧ H2.length = Hb.length + 2 ∧ (∀ (i : Nat) (b : Blk),H3[i]? = some b → b = .dead ∨ (H2.set 1 (.cells [v']))[i]? = some b) ∧ q'.L = q.L ++ [D] ∧ q'.out H3 ∧ (∀ j,j < Hb.length → j ≠ 1 → (∀ lb,q.j ≠ some (j,lb)) → H3[j]? = Hb[j]?) ∧
      (∀ LP,HOk LP Hb → HOk LP H3) ∧ (∀ j lb,q'.j = some (j,lb) → q.j = some (j,lb) ∨ Hb.length ≤ j) := by
  have lt : ∀ {H : AHeap} {j b},H[j]? = some b → j < H.length := fun hj => (List.getElem?_eq_some_iff.1 hj).1
  obtain ⟨c,hc⟩ : ∃ c : Blk,Blk.cells [.sl false false (mI D)] = c := ⟨_,rfl⟩
  have hcok : ∀ LP N i,blkN LP N i c := fun LP N i => by rw [← hc]; simp [blkN,bndL,AVal.bnd,mI_bnd]
  have src : srcA 1 (.own Hb.length 0 1 1 1) (Hb ++ [c,.hole]) = some (1,[.sl false false (mI D)],(0 + 1 * 1 ≤ [AVal.sl false false (mI D)].length ∧ ∀ u ∈ [AVal.sl false false (mI D)],u.isCell = true)) := by
    rw [← hc]; simp [srcA]
  have pr0 : 0 + 1 * 1 ≤ [AVal.sl false false (mI D)].length ∧ ∀ u ∈ [AVal.sl false false (mI D)],u.isCell = true := ⟨by simp,by simp; rfl⟩
  have okc : ∀ LP,HOk LP Hb → ∀ b,blkN LP (Hb.length + 2) (Hb.length + 1) b → HOk LP (Hb ++ [c,b]) := fun LP h0 b hb => by
    have k1 := h0.push (b := c) (hcok _ _ _)
    have k2 := k1.push (b := b) (by rw [List.length_append]; exact hb)
    rwa [List.append_assoc] at k2
  have hsetl : (Hb ++ [c,.hole]).length = Hb.length + 2 := by simp
  rw [hc]
  unfold appB appA
  rw [src]
  dsimp only
  unfold G34.out at hq
  cases hj : q.j with
  | none =>
    rw [hj] at hq
    obtain ⟨h0,hL⟩ := hq
    have e : (Hb ++ [c,.hole]).set (Hb.length + 1) (.cells [.sl false false (mI D)]) = Hb ++ [c,.cells [.sl false false (mI D)]] := by rw [app_set]; rfl
    refine ⟨nilSl,_,_,_,⟨[D],some (Hb.length + 1,1)⟩,(Hb ++ [c,.cells [.sl false false (mI D)]]).set 1 (.cells [.own (Hb.length + 1) 0 1 1 1]),h0,rfl,⟨pr0,by omega⟩,rfl,rfl,?_,by simp,by simp,fun i b hi => .inr ?_,by rw [hL]; rfl,⟨?_,⟨[.sl false false (mI D)],?_,rfl,rfl⟩,by simp,by omega,by omega,by omega⟩,fun j hj1 hj0 _ => ?_,fun LP h9 => ?_,?_⟩
    · rw [e,List.getElem?_append_left (by omega)]; exact h0
    · rw [e]; exact hi
    · rw [List.getElem?_set_self (by simp)]; rfl
    · rw [List.getElem?_set_ne (by omega),app_get]; rfl
    · rw [List.getElem?_set_ne (by omega),List.getElem?_append_left hj1]
    · exact (okc LP h9 (.cells [.sl false false (mI D)]) (by simp [blkN,bndL,AVal.bnd,mI_bnd])).set (b := .cells [.own (Hb.length + 1) 0 1 1 1]) (by simp [blkN,vid])
    · intro j lb hjj
      simp at hjj
      right; omega
  | some p =>
    obtain ⟨j,lb⟩ := p
    rw [hj] at hq
    obtain ⟨h0,⟨cs,hcs,hcl,htk⟩,hle,hj0,hj2⟩ := hq
    have hjl := lt hcs
    have hcs1 : (Hb ++ [c,.hole])[j]? = some (.cells cs) := by rw [List.getElem?_append_left hjl]; exact hcs
    have e1 : 0 + q.L.length * 1 = q.L.length := by omega
    have e2 : 0 + q.L.length * 1 + 1 * 1 = q.L.length + 1 := by omega
    have e3 : q.L.length * 1 = q.L.length := by omega
    have hcells : cs.take q.L.length ++ [AVal.sl false false (mI D)] = mS (q.L ++ [D]) := by rw [htk,mS_one,mS_append]
    refine ⟨.own j 0 q.L.length lb 1,?_⟩
    dsimp only
    rw [if_pos rfl,hcs1]
    dsimp only
    by_cases hlt : q.L.length + 1 ≤ lb
    · rw [if_pos hlt,e2,e1,hcells]
      refine ⟨_,_,_,⟨q.L ++ [D],some (j,lb)⟩,(((Hb ++ [c,.dead]).set j (.cells (mS (q.L ++ [D]) ++ cs.drop (q.L.length + 1)))).set 1 (.cells [.own j 0 (q.L.length + 1) lb 1])),h0,rfl,⟨pr0,by omega⟩,rfl,rfl,?_,by simp,by simp,fun i b hi => ?_,rfl,⟨?_,⟨mS (q.L ++ [D]) ++ cs.drop (q.L.length + 1),?_,?_,?_⟩,by simp; omega,hj0,hj2⟩,fun i hi1 hi0 hi2 => ?_,fun LP h9 => ?_,?_⟩
      · rw [List.getElem?_set_ne hj0,List.getElem?_append_left (by omega)]; exact h0
      · by_cases hi9 : i = Hb.length + 1
        · subst hi9
          rw [List.getElem?_set_ne (by omega),List.getElem?_set_ne (by omega),app_get] at hi
          left; simpa using hi.symm
        · right
          rw [← hi]
          have hap : (Hb ++ [c,Blk.hole])[i]? = (Hb ++ [c,Blk.dead])[i]? := by
            rw [List.getElem?_append,List.getElem?_append]
            split
            · rfl
            · by_cases h7 : i - Hb.length = 0
              · rw [h7]; rfl
              · have : 2 ≤ i - Hb.length := by omega
                rw [List.getElem?_eq_none (by simpa using this),List.getElem?_eq_none (by simpa using this)]
          rw [List.getElem?_set,List.getElem?_set,List.getElem?_set,List.getElem?_set,hap]
          simp
      · rw [List.getElem?_set_self (by simp)]; simp
      · rw [List.getElem?_set_ne (Ne.symm hj0),List.getElem?_set_self (by simp; omega)]
      · rw [List.length_append,mS_length]; simp; omega
      · rw [List.take_append_of_le_length (by rw [mS_length]; exact Nat.le_refl _),List.take_of_length_le (by rw [mS_length]; exact Nat.le_refl _)]
      · rw [List.getElem?_set_ne (Ne.symm hi0),List.getElem?_set_ne (fun h => hi2 lb (by rw [h])),List.getElem?_append_left hi1]
      · refine ((okc LP h9 .dead trivial).set (i := j) (b := .cells (mS (q.L ++ [D]) ++ cs.drop (q.L.length + 1))) ?_).set (b := .cells [.own j 0 (q.L.length + 1) lb 1]) (by simp [blkN,vid]; omega)
        have hb := h9.cells hcs
        show (bndL 0 _ || List.all _ _) = true
        rw [Bool.or_eq_true] at hb ⊢
        rcases hb with hb | hb
        · left
          rw [bndL_append,mS_bnd,Bool.true_and]
          exact bndL_of fun u hu => bndL_mem hb u (List.mem_of_mem_drop hu)
        · right
          rw [List.all_append,Bool.and_eq_true]
          exact ⟨List.all_eq_true.2 fun u hu => by obtain ⟨z,_,rfl⟩ := List.mem_map.1 hu; exact mI_bnd,List.all_eq_true.2 fun u hu => vid_mono (by simp) 2 u (List.all_eq_true.1 hb u (List.mem_of_mem_drop hu))⟩
      · intro i lb' hii
        simp at hii
        left; rw [hii.1,hii.2]
    · rw [if_neg hlt,e3,hcells]
      refine ⟨_,_,_,⟨q.L ++ [D],some (Hb.length + 1,q.L.length + 1)⟩,(((Hb ++ [c,.cells (mS (q.L ++ [D]))]).set j .dead).set 1 (.cells [.own (Hb.length + 1) 0 (q.L.length + 1) (q.L.length + 1) 1])),h0,rfl,⟨pr0,by omega,by rw [htk,mS_isCell]; trivial,by omega⟩,rfl,rfl,?_,by simp,by simp,fun i b hi => .inr ?_,rfl,⟨?_,⟨mS (q.L ++ [D]),?_,?_,?_⟩,by simp,by omega,by omega,by omega⟩,fun i hi1 hi0 hi2 => ?_,fun LP h9 => ?_,?_⟩
      · rw [List.getElem?_set_ne (by omega),List.getElem?_set_ne hj0,List.getElem?_append_left (by omega)]; exact h0
      · rw [← hi]
        congr 2
        rw [List.set_comm _ _ (by omega),app_set]; rfl
      · rw [List.getElem?_set_self (by simp)]; simp
      · rw [List.getElem?_set_ne (by omega),List.getElem?_set_ne (by omega),app_get]; rfl
      · rw [mS_length]; simp
      · exact List.take_of_length_le (by rw [mS_length]; exact Nat.le_refl _)
      · rw [List.getElem?_set_ne (Ne.symm hi0),List.getElem?_set_ne (fun h => hi2 lb (by rw [h])),List.getElem?_append_left hi1]
      · exact ((okc LP h9 (.cells (mS (q.L ++ [D]))) (by simp [blkN,mS_bnd])).set (b := .dead) trivial).set (b := .cells [.own (Hb.length + 1) 0 (q.L.length + 1) (q.L.length + 1) 1]) (by simp [blkN,vid])
      · intro i lb' hii
        simp at hii
        right; omega
end
section
variable {c : Cl} {L n : Nat} {set : Int}
end
end Go.Proofs.Ytlonaefihjdkpaa
namespace Go.Abs.Sp
end Go.Abs.Sp
namespace Go.Proofs.Ytlonaefihjdkpaa
open Go.Abs AVal
set_option linter.unusedSimpArgs false
attribute [local go_sem] W_skip W_keep KQ_canon canon Fr.norm W_seq W_block W_scope W_exit W_ret W_ops W_draw KQ_nil KQ_norm_seq KQ_exit_seq KQ_ret_seq KQ_norm_block KQ_ret_block KQ_exit_block KQ_exit_loop KQ_ret_loop O_nil O_cons S_call S_mv SE_mv SD_mv S_pick SE_pick SD_pick S_bin SE_bin SD_bin S_eqb SE_eqb SD_eqb S_eqv SE_eqv SD_eqv S_eqnil SE_eqnil SD_eqnil S_un SE_un SD_un S_conv SE_conv SD_conv S_mkfn SE_mkfn SD_mkfn S_load SE_load SD_load S_nilck SE_nilck SD_nilck S_slS SE_slS SD_slS S_slP SE_slP SD_slP S_fldA SE_fldA SD_fldA S_fld SE_fld SD_fld S_ixS SE_ixS SD_ixS S_ixP SE_ixP SD_ixP S_ixV SE_ixV SD_ixV S_ixStr SE_ixStr SD_ixStr S_ext SE_ext SD_ext S_len SE_len SD_len S_lenStr SE_lenStr SD_lenStr S_lenc SE_lenc SD_lenc S_mn SE_mn SD_mn S_mx SE_mx SD_mx S_build SE_build SD_build S_alloc SD_alloc S_box SD_box S_bslice SD_bslice S_mksl SD_mksl S_store SD_store S_append SD_append S_copy SD_copy S_clr SD_clr S_mlen SE_mlen SD_mlen S_mget SE_mget SD_mget S_mval SE_mval SD_mval S_mentry SE_mentry SD_mentry S_mkmap SD_mkmap S_mset SD_mset S_mrange SD_mrange S_mnext mlenA mgetA mvalA mentryA msetA mrangeA cells_mp isCell_mp cellsOk_mp aq_some aa_some al_some alA_some aqd_some aad_some ald_some ape_some D_done D_both D_early D_step SE_call SD_call IOpd.ev Fr.get Fr.put Fr.putd entryFr pickA binA binI isSh shI eqbA eqvA ints ints_mI Option.map_some eqnilA unA convA loadA nilckA intA slSA slPA fldAA fldVA ixSA ixPA ixVA ixStrA extA lenA lenStrA mnA mxA AVal.fits fillA fillOk buildA opa srcA appA stoA copA clrA rdFree zeros List.length_nil List.length_cons List.length_map List.map_cons List.map_nil Option.map_some Option.map_none if_true if_false ite_true ite_false true_and and_true and_self implies_true forall_const true_implies Bool.false_eq_true Bool.not_true Bool.not_false decide_eq_true_eq decide_eq_false_iff_not eq_self List.getElem?_cons_zero List.getElem?_cons_succ List.getElem?_nil List.set_cons_zero List.set_cons_succ List.nil_append List.cons_append List.append_nil List.replicate_zero List.replicate_succ Nat.zero_add false_implies rng_lt rng_end rng_get cells_I cells_B cells_sl cut_one Int.toNat_natCast Int.natCast_nonneg List.headD_cons Int.lt_irrefl not_false_eq_true decide_false decide_true mI_length mI_cells mI_sz mI_isCell mI_mid mI_append mI_take mI_drop cells_val cells_own cells_agg isCell_I isCell_B isCell_nil isCell_sl isCell_own isCell_ptr isCell_fn isCell_rp isCell_yld cellsOk_I cellsOk_B cellsOk_nil cellsOk_sl cellsOk_own cellsOk_ptr cellsOk_fn cellsOk_rp cellsOk_yld cellsOk_agg cells_nil cells_ptr cells_fn cells_rp List.all_cons List.all_nil Bool.and_true Nat.mul_one Nat.zero_mul Nat.one_mul List.take_zero List.take_nil List.drop_nil List.drop_zero List.not_mem_nil Nat.le_refl Nat.zero_le mS_length mS_cells mS_sz mS_isCell mS_mid mS_append mS_take mS_drop cells_sI isCell_sI cellsOk_sI sI_eq succ_le_self' List.take_succ_cons List.drop_succ_cons List.take_length beq_self_eq_true List.mem_cons or_false forall_eq mI_put mI_rep O_guard' D_earlyG' D_stepG' W_cond' G_tt G_tf G_ft G_ff GE_tt GE_tf GE_ft GE_ff GS_tt GS_tf GS_ft GS_ff G_u GE_u GS_u IC_t IC_f xft xff xtt xtf z00 z20 z22 z02 zz tn0
end Go.Proofs.Ytlonaefihjdkpaa
