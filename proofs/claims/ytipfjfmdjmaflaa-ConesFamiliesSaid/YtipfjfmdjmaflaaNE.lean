/- Contracts: prices; Contracts: the best vector that one move leads to; Contracts: Best and Step of the program. -/
import Derived.Test.YtipfjfmdjmaflaaKC
import Derived.Test.YtipfjfmdjmaflaaNV
import Derived.Test.YtipfjfmdjmaflaaLB
import Derived.Test.YtipfjfmdjmaflaaNU
namespace Go.Proofs.Ytipfjfmdjmaflaa
open Go.Abs AVal
set_option linter.unusedSimpArgs false
attribute [local go_sem] W_skip W_keep KQ_canon canon Fr.norm W_seq W_block W_scope W_exit W_ret W_ops W_draw KQ_nil KQ_norm_seq KQ_exit_seq KQ_ret_seq KQ_norm_block KQ_ret_block KQ_exit_block KQ_exit_loop KQ_ret_loop O_nil O_cons S_call S_mv SE_mv SD_mv S_pick SE_pick SD_pick S_bin SE_bin SD_bin S_eqb SE_eqb SD_eqb S_eqv SE_eqv SD_eqv S_eqnil SE_eqnil SD_eqnil S_un SE_un SD_un S_conv SE_conv SD_conv S_mkfn SE_mkfn SD_mkfn S_load SE_load SD_load S_nilck SE_nilck SD_nilck S_slS SE_slS SD_slS S_slP SE_slP SD_slP S_fldA SE_fldA SD_fldA S_fld SE_fld SD_fld S_ixS SE_ixS SD_ixS S_ixP SE_ixP SD_ixP S_ixV SE_ixV SD_ixV S_ixStr SE_ixStr SD_ixStr S_ext SE_ext SD_ext S_len SE_len SD_len S_lenStr SE_lenStr SD_lenStr S_lenc SE_lenc SD_lenc S_mn SE_mn SD_mn S_mx SE_mx SD_mx S_build SE_build SD_build S_alloc SD_alloc S_box SD_box S_bslice SD_bslice S_mksl SD_mksl S_store SD_store S_append SD_append S_copy SD_copy S_clr SD_clr S_mlen SE_mlen SD_mlen S_mget SE_mget SD_mget S_mval SE_mval SD_mval S_mentry SE_mentry SD_mentry S_mkmap SD_mkmap S_mset SD_mset S_mrange SD_mrange S_mnext mlenA mgetA mvalA mentryA msetA mrangeA cells_mp isCell_mp cellsOk_mp aq_some aa_some al_some alA_some aqd_some aad_some ald_some ape_some D_done D_both D_early D_step SE_call SD_call IOpd.ev Fr.get Fr.put Fr.putd entryFr pickA binA binI isSh shI eqbA eqvA ints ints_mI Option.map_some eqnilA unA convA loadA nilckA intA slSA slPA fldAA fldVA ixSA ixPA ixVA ixStrA extA lenA lenStrA mnA mxA AVal.fits fillA fillOk buildA opa srcA appA stoA copA clrA rdFree zeros List.length_nil List.length_cons List.length_map List.map_cons List.map_nil Option.map_some Option.map_none if_true if_false ite_true ite_false true_and and_true and_self implies_true forall_const true_implies Bool.false_eq_true Bool.not_true Bool.not_false decide_eq_true_eq decide_eq_false_iff_not eq_self List.getElem?_cons_zero List.getElem?_cons_succ List.getElem?_nil List.set_cons_zero List.set_cons_succ List.nil_append List.cons_append List.append_nil List.replicate_zero List.replicate_succ Nat.zero_add false_implies rng_lt rng_end rng_get cells_I cells_B cells_sl cut_one Int.toNat_natCast Int.natCast_nonneg List.headD_cons Int.lt_irrefl not_false_eq_true decide_false decide_true mI_length mI_cells mI_sz mI_isCell mI_mid mI_append mI_take mI_drop cells_val cells_own cells_agg isCell_I isCell_B isCell_nil isCell_sl isCell_own isCell_ptr isCell_fn isCell_rp isCell_yld cellsOk_I cellsOk_B cellsOk_nil cellsOk_sl cellsOk_own cellsOk_ptr cellsOk_fn cellsOk_rp cellsOk_yld cellsOk_agg cells_nil cells_ptr cells_fn cells_rp List.all_cons List.all_nil Bool.and_true Nat.mul_one Nat.zero_mul Nat.one_mul List.take_zero List.take_nil List.drop_nil List.drop_zero List.not_mem_nil Nat.le_refl Nat.zero_le mS_length mS_cells mS_sz mS_isCell mS_mid mS_append mS_take mS_drop cells_sI isCell_sI cellsOk_sI sI_eq succ_le_self' List.take_succ_cons List.drop_succ_cons List.take_length beq_self_eq_true List.mem_cons or_false forall_eq mI_put mI_rep O_guard' D_earlyG' D_stepG' W_cond' G_tt G_tf G_ft G_ff GE_tt GE_tf GE_ft GE_ff GS_tt GS_tf GS_ft GS_ff G_u GE_u GS_u IC_t IC_f xft xff xtt xtf z00 z20 z22 z02 zz tn0
/-- The first blocks stay, the rest is let go. -/
theorem Wk.cut {LP : Nat → Fr → Prop} {H H1 : AHeap} {B : Nat} (h : HOk LP H) (hL : ∀ i fr, LP i fr → LPb B i fr) (hB : B ≤ H.length) {fr fr' : Fr} (hf : ∀ p ∈ fr', fr.get p.1 = p.2 ∧ vid H.length 3 p.2 = true) : Wk B [] (idρ H.length) fr (H ++ H1) fr' H :=
  ⟨idρ_len _, fun i hi => idρ_get (by omega), (imgs_id H 0).2, by
    have key : ∀ (L : AHeap) (i : Nat), (∀ (k : Nat) b, L[k]? = some b → H[i + k]? = some b) → hle B (H ++ H1) (idρ H.length) (imgs (idρ H.length) 0 H) i L := by
      intro L
      induction L with
      | nil => intro i _; trivial
      | cons b r ih =>
        intro i hk
        have h0 := hk 0 b rfl
        rw [Nat.add_zero] at h0
        have hi := (List.getElem?_eq_some_iff.1 h0).1
        have hb := h i b h0
        have h0' : (H ++ H1)[i]? = some b := by rw [List.getElem?_append_left hi]; exact h0
        refine ⟨?_, ih (i + 1) fun k c hc => by have := hk (k + 1) c (by simpa using hc); rw [show i + 1 + k = i + (k + 1) by omega]; exact this⟩
        cases b with
        | hole => exact hb
        | dead => trivial
        | defs => exact ⟨idρ_get hi, h0'⟩
        | map es => exact ⟨hb, by simp only [idρ_get hi]; exact h0'⟩
        | iter m n seen => exact ⟨by rw [idρ_len]; exact hb, by simp only [idρ_get hi, idρ_get hb]; exact h0'⟩
        | loop st pend fr n ps aa bd =>
          have := hL _ _ hb
          exact ⟨this.1, h0', fr_bnd this.2⟩
        | cells cs =>
          simp only [idρ_get hi, h0']
          have hb : (bndL 0 cs || cs.all (vid H.length 2)) = true := hb
          rw [Bool.or_eq_true] at hb
          exact hb.imp (fun h => ⟨rfl, h⟩) fun h => vleL_same h
    exact key H 0 fun k b hk => by rw [Nat.zero_add]; exact hk, fle_id hf, fun m hm => by cases hm⟩
theorem dot_dp {p y : List Int} (hp : p.length = 4) (hy : y.length = 4) (bp : Sp.inB 9 p) (by' : Sp.inB 100000 y) : Sp.dot p y = Sp.dp p y := by
  unfold Sp.dot
  rw [Sp.dotG_dp (A := 9) (M := 100000) (by decide) (by decide) (by decide) bp by' (by omega) (by rw [hp]; simp) (by rw [hp]; simp), Int.zero_add]
end Go.Proofs.Ytipfjfmdjmaflaa
namespace Go.Proofs.Ytipfjfmdjmaflaa
open Go.Abs AVal
set_option linter.unusedSimpArgs false
attribute [local go_sem] W_skip W_keep KQ_canon canon Fr.norm W_seq W_block W_scope W_exit W_ret W_ops W_draw KQ_nil KQ_norm_seq KQ_exit_seq KQ_ret_seq KQ_norm_block KQ_ret_block KQ_exit_block KQ_exit_loop KQ_ret_loop O_nil O_cons S_call S_mv SE_mv SD_mv S_pick SE_pick SD_pick S_bin SE_bin SD_bin S_eqb SE_eqb SD_eqb S_eqv SE_eqv SD_eqv S_eqnil SE_eqnil SD_eqnil S_un SE_un SD_un S_conv SE_conv SD_conv S_mkfn SE_mkfn SD_mkfn S_load SE_load SD_load S_nilck SE_nilck SD_nilck S_slS SE_slS SD_slS S_slP SE_slP SD_slP S_fldA SE_fldA SD_fldA S_fld SE_fld SD_fld S_ixS SE_ixS SD_ixS S_ixP SE_ixP SD_ixP S_ixV SE_ixV SD_ixV S_ixStr SE_ixStr SD_ixStr S_ext SE_ext SD_ext S_len SE_len SD_len S_lenStr SE_lenStr SD_lenStr S_lenc SE_lenc SD_lenc S_mn SE_mn SD_mn S_mx SE_mx SD_mx S_build SE_build SD_build S_alloc SD_alloc S_box SD_box S_bslice SD_bslice S_mksl SD_mksl S_store SD_store S_append SD_append S_copy SD_copy S_clr SD_clr S_mlen SE_mlen SD_mlen S_mget SE_mget SD_mget S_mval SE_mval SD_mval S_mentry SE_mentry SD_mentry S_mkmap SD_mkmap S_mset SD_mset S_mrange SD_mrange S_mnext mlenA mgetA mvalA mentryA msetA mrangeA cells_mp isCell_mp cellsOk_mp aq_some aa_some al_some alA_some aqd_some aad_some ald_some ape_some D_done D_both D_early D_step SE_call SD_call IOpd.ev Fr.get Fr.put Fr.putd entryFr pickA binA binI isSh shI eqbA eqvA ints ints_mI Option.map_some eqnilA unA convA loadA nilckA intA slSA slPA fldAA fldVA ixSA ixPA ixVA ixStrA extA lenA lenStrA mnA mxA AVal.fits fillA fillOk buildA opa srcA appA stoA copA clrA rdFree zeros List.length_nil List.length_cons List.length_map List.map_cons List.map_nil Option.map_some Option.map_none if_true if_false ite_true ite_false true_and and_true and_self implies_true forall_const true_implies Bool.false_eq_true Bool.not_true Bool.not_false decide_eq_true_eq decide_eq_false_iff_not eq_self List.getElem?_cons_zero List.getElem?_cons_succ List.getElem?_nil List.set_cons_zero List.set_cons_succ List.nil_append List.cons_append List.append_nil List.replicate_zero List.replicate_succ Nat.zero_add false_implies rng_lt rng_end rng_get cells_I cells_B cells_sl cut_one Int.toNat_natCast Int.natCast_nonneg List.headD_cons Int.lt_irrefl not_false_eq_true decide_false decide_true mI_length mI_cells mI_sz mI_isCell mI_mid mI_append mI_take mI_drop cells_val cells_own cells_agg isCell_I isCell_B isCell_nil isCell_sl isCell_own isCell_ptr isCell_fn isCell_rp isCell_yld cellsOk_I cellsOk_B cellsOk_nil cellsOk_sl cellsOk_own cellsOk_ptr cellsOk_fn cellsOk_rp cellsOk_yld cellsOk_agg cells_nil cells_ptr cells_fn cells_rp List.all_cons List.all_nil Bool.and_true Nat.mul_one Nat.zero_mul Nat.one_mul List.take_zero List.take_nil List.drop_nil List.drop_zero List.not_mem_nil Nat.le_refl Nat.zero_le mS_length mS_cells mS_sz mS_isCell mS_mid mS_append mS_take mS_drop cells_sI isCell_sI cellsOk_sI sI_eq succ_le_self' List.take_succ_cons List.drop_succ_cons List.take_length beq_self_eq_true List.mem_cons or_false forall_eq mI_put mI_rep O_guard' D_earlyG' D_stepG' W_cond' G_tt G_tf G_ft G_ff GE_tt GE_tf GE_ft GE_ff GS_tt GS_tf GS_ft GS_ff G_u GE_u GS_u IC_t IC_f xft xff xtt xtf z00 z20 z22 z02 zz tn0
/-- A least price in a family. -/
def Least (a : List (List Int)) (P X0 : List Int) (m : Int) : Prop := (∃ X, Sp.Fam (a.map Sp.pad) (a.getD 0 []).length X0 X ∧ m = Sp.dp P X) ∧ ∀ Y, Sp.Fam (a.map Sp.pad) (a.getD 0 []).length X0 Y → m ≤ Sp.dp P Y
theorem Least.uniq {a : List (List Int)} {P X : List Int} {m k : Int} (h : Least a P X m) (h' : Least a P X k) : m = k := by
  obtain ⟨⟨Y, hY, rfl⟩, h2⟩ := h
  obtain ⟨⟨Z, hZ, rfl⟩, h4⟩ := h'
  have := h2 Z hZ
  have := h4 Y hY
  omega
end Go.Proofs.Ytipfjfmdjmaflaa
