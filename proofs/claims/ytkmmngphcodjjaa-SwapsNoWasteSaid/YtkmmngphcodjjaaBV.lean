/- The statement SwapsCore. -/
import Derived.Test.YtkmmngphcodjjaaPS
namespace Go.Abs.Sp
theorem allGo_spec {n : Nat} (hn : n ≤ 6) : ∀ (l : List Int) (met : Int),isSet met → allGo n met l = true → l.Nodup ∧ ∀ x ∈ l,has met x.toNat = false
  | [],met,_,_ => by simp
  | x :: l,met,hm,h => by
    unfold allGo at h
    by_cases h1 : x < 0
    · simp [h1] at h
    by_cases h2 : x ≥ n
    · simp [h1,h2] at h
    rw [if_neg h1,if_neg h2] at h
    obtain ⟨i,rfl⟩ : ∃ i : Nat,x = i := ⟨x.toNat,by omega⟩
    have hi : i < 6 := by omega
    have hb : has met i = false := by
      by_cases hb : bitAt met i == 1
      · rw [if_pos hb] at h; cases h
      · simpa [has] using hb
    rw [if_neg (by simpa [has] using hb)] at h
    obtain ⟨k1,k2⟩ := allGo_spec hn l _ (or_set hm hi) h
    refine ⟨List.nodup_cons.2 ⟨fun hx => ?_,k1⟩,fun y hy => ?_⟩
    · have := k2 _ hx
      rw [Int.toNat_natCast,has_or hm hi hi] at this
      simp at this
    · rcases List.mem_cons.1 hy with rfl | hy
      · exact hb
      · have := k2 y hy
        have hy8 : y.toNat < 6 := by
          have hr := allGo_rng l _ h y hy
          omega
        rw [has_or hm hi hy8,Bool.or_eq_false_iff] at this
        exact this.1
where
  allGo_rng : ∀ (l : List Int) (met : Int),allGo n met l = true → ∀ x ∈ l,0 ≤ x ∧ x < n
    | [],_,_,x,hx => by cases hx
    | y :: l,met,h,x,hx => by
      unfold allGo at h
      split at h
      · cases h
      · split at h
        · cases h
        · split at h
          · cases h
          · rcases List.mem_cons.1 hx with rfl | hx
            · omega
            · exact allGo_rng l _ h x hx
theorem deals_mem {n : Nat} : ∀ (m : Nat) (b o : List Int),b.length + m = n → o.length = n → (∀ x ∈ o,0 ≤ x ∧ x < n) → o.Nodup → o.take b.length = b → o ∈ dealsR n m b
  | 0,b,o,hl,ho,hr,hn,hp => by
    have : o = b := by rw [← hp,List.take_of_length_le (by omega)]
    simp [dealsR,this]
  | m + 1,b,o,hl,ho,hr,hn,hp => by
    have hlt : b.length < o.length := by omega
    obtain ⟨x,hx⟩ : ∃ x,o[b.length] = x := ⟨_,rfl⟩
    have hxr := hr x (by rw [← hx]; exact List.getElem_mem _)
    obtain ⟨c,rfl⟩ : ∃ c : Nat,x = c := ⟨x.toNat,by omega⟩
    have hp' : o.take (b ++ [(c : Int)]).length = b ++ [(c : Int)] := by
      rw [List.length_append,List.length_singleton,List.take_add_one,hp,List.getElem?_eq_getElem hlt,hx]; rfl
    have hnb : (c : Int) ∉ b := fun hc => by
      have hnd : (o.take (b ++ [(c : Int)]).length).Nodup := hn.sublist (List.take_sublist _ _)
      rw [hp',List.nodup_append] at hnd
      exact hnd.2.2 _ hc _ (by simp) rfl
    simp only [dealsR,List.mem_flatMap,List.mem_range]
    exact ⟨c,by omega,by rw [if_neg hnb]; exact deals_mem m _ o (by simp; omega) ho hr hn hp'⟩
theorem order_mem {n : Nat} (hn : n ≤ 6) {o : List Int} (h : isOrder o n = true) : o ∈ allDeals n := by
  obtain ⟨h1,h2,-⟩ := order_spec hn h
  rw [← all_eq hn,all] at h
  split at h
  · rename_i hg
    exact deals_mem n [] o (by simp) h1 h2 (allGo_spec hn o 0 set0 hg).1 (by simp)
  · cases h
end Go.Abs.Sp
namespace Go.Proofs.Ytkmmngphcodjjaa
open Go.Abs AVal
set_option linter.unusedSimpArgs false
attribute [local go_sem] W_skip W_keep KQ_canon canon Fr.norm W_seq W_block W_scope W_cond W_exit W_ret W_ops W_draw KQ_nil KQ_norm_seq KQ_exit_seq KQ_ret_seq KQ_norm_block KQ_ret_block KQ_exit_block KQ_exit_loop KQ_ret_loop O_nil O_cons O_guard' S_call S_mv SE_mv SD_mv S_pick SE_pick SD_pick S_bin SE_bin SD_bin S_eqb SE_eqb SD_eqb S_eqv SE_eqv SD_eqv S_eqnil SE_eqnil SD_eqnil S_un SE_un SD_un S_conv SE_conv SD_conv S_mkfn SE_mkfn SD_mkfn S_load SE_load SD_load S_nilck SE_nilck SD_nilck S_slS SE_slS SD_slS S_slP SE_slP SD_slP S_fldA SE_fldA SD_fldA S_fld SE_fld SD_fld S_ixS SE_ixS SD_ixS S_ixP SE_ixP SD_ixP S_ixV SE_ixV SD_ixV S_ixStr SE_ixStr SD_ixStr S_ext SE_ext SD_ext S_len SE_len SD_len S_lenStr SE_lenStr SD_lenStr S_lenc SE_lenc SD_lenc S_mn SE_mn SD_mn S_mx SE_mx SD_mx S_build SE_build SD_build S_alloc SD_alloc S_box SD_box S_bslice SD_bslice S_mksl SD_mksl S_store SD_store S_append SD_append S_copy SD_copy S_clr SD_clr S_mlen SE_mlen SD_mlen S_mget SE_mget SD_mget S_mval SE_mval SD_mval S_mentry SE_mentry SD_mentry S_mkmap SD_mkmap S_mset SD_mset S_mrange SD_mrange S_mnext mlenA mgetA mvalA mentryA msetA mrangeA cells_mp isCell_mp cellsOk_mp aq_some aa_some al_some alA_some aqd_some aad_some ald_some ape_some D_done D_both D_early D_earlyG' D_step D_stepG' SE_call SD_call G_bool GE_bool GS_bool icond_bool IOpd.ev Fr.get Fr.put Fr.putd entryFr pickA binA binI isSh shI eqbA eqvA ints ints_mI Option.map_some eqnilA unA convA loadA nilckA intA slSA slPA fldAA fldVA ixSA ixPA ixVA ixStrA extA lenA lenStrA mnA mxA AVal.fits fillA fillOk buildA opa srcA appA stoA copA clrA rdFree zeros List.length_nil List.length_cons List.length_map List.map_cons List.map_nil Option.map_some Option.map_none if_true if_false ite_true ite_false true_and and_true and_self implies_true forall_const true_implies Bool.false_eq_true Bool.not_true Bool.not_false decide_eq_true_eq decide_eq_false_iff_not eq_self List.getElem?_cons_zero List.getElem?_cons_succ List.getElem?_nil List.set_cons_zero List.set_cons_succ List.nil_append List.cons_append List.append_nil List.replicate_zero List.replicate_succ Nat.zero_add false_implies rng_lt rng_end rng_get cells_I cells_B cells_sl cut_one Int.toNat_natCast Int.natCast_nonneg List.headD_cons Int.lt_irrefl not_false_eq_true decide_false decide_true mI_length mI_cells mI_sz mI_isCell mI_mid mI_append mI_take mI_drop cells_val cells_own cells_agg isCell_I isCell_B isCell_nil isCell_sl isCell_own isCell_ptr isCell_fn isCell_rp isCell_yld cellsOk_I cellsOk_B cellsOk_nil cellsOk_sl cellsOk_own cellsOk_ptr cellsOk_fn cellsOk_rp cellsOk_yld cellsOk_agg cells_nil cells_ptr cells_fn cells_rp List.all_cons List.all_nil Bool.and_true Nat.mul_one Nat.zero_mul Nat.one_mul List.take_zero List.take_nil List.drop_nil List.drop_zero List.not_mem_nil Nat.le_refl Nat.zero_le mS_length mS_cells mS_sz mS_isCell mS_mid mS_append mS_take mS_drop cells_sI isCell_sI cellsOk_sI sI_eq succ_le_self' List.take_succ_cons List.drop_succ_cons List.take_length beq_self_eq_true List.mem_cons or_false forall_eq mI_put mI_rep
theorem s43p (t : Bool) (xs : List Int) (h1 : 1 ≤ xs.length) (hl : xs.length ≤ 137438953472) : Abs.Spec Try.prog 43 [.sl false t (mI xs)] [] fun v H' => H' = [] ∧ v = .sl false false (mI xs) :=
  Spec.frozen (s43o t xs h1 hl) (by omega) mI_bnd mI_length (by rw [mI_sz]; trivial) (by rw [Nat.mul_one,List.take_of_length_le (by rw [mI_length]; exact Nat.le_refl _),mI_cells])
end Go.Proofs.Ytkmmngphcodjjaa
