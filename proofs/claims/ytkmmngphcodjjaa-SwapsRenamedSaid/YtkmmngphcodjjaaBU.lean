/- Contracts: how deals compare, and how many are in a set; Contracts: which sets block a deal. -/
import Derived.Test.YtkmmngphcodjjaaBS
import Derived.Test.YtkmmngphcodjjaaCE
import Derived.Test.YtkmmngphcodjjaaPR
namespace Go.Proofs.Ytkmmngphcodjjaa
open Go.Abs AVal
set_option linter.unusedSimpArgs false
attribute [local go_sem] W_skip W_keep KQ_canon canon Fr.norm W_seq W_block W_exit W_ret W_ops W_draw KQ_nil KQ_norm_seq KQ_exit_seq KQ_ret_seq KQ_norm_block KQ_ret_block KQ_exit_block KQ_exit_loop KQ_ret_loop O_nil O_cons S_call S_mv SE_mv SD_mv S_pick SE_pick SD_pick S_bin SE_bin SD_bin S_eqb SE_eqb SD_eqb S_eqv SE_eqv SD_eqv S_eqnil SE_eqnil SD_eqnil S_un SE_un SD_un S_conv SE_conv SD_conv S_mkfn SE_mkfn SD_mkfn S_load SE_load SD_load S_nilck SE_nilck SD_nilck S_slS SE_slS SD_slS S_slP SE_slP SD_slP S_fldA SE_fldA SD_fldA S_fld SE_fld SD_fld S_ixS SE_ixS SD_ixS S_ixP SE_ixP SD_ixP S_ixV SE_ixV SD_ixV S_ixStr SE_ixStr SD_ixStr S_ext SE_ext SD_ext S_len SE_len SD_len S_lenStr SE_lenStr SD_lenStr S_lenc SE_lenc SD_lenc S_mn SE_mn SD_mn S_mx SE_mx SD_mx S_build SE_build SD_build S_alloc SD_alloc S_box SD_box S_bslice SD_bslice S_mksl SD_mksl S_store SD_store S_append SD_append S_copy SD_copy S_clr SD_clr aq_some aa_some al_some aqd_some aad_some ald_some ape_some D_done D_both D_early D_step SE_call SD_call IOpd.ev Fr.get Fr.put Fr.putd entryFr pickA binA binI isSh shI eqbA eqvA ints ints_mI Option.map_some eqnilA unA convA loadA nilckA intA slSA slPA fldAA fldVA ixSA ixPA ixVA ixStrA extA lenA lenStrA mnA mxA AVal.fits fillA fillOk buildA opa srcA appA stoA copA clrA rdFree zeros List.length_nil List.length_cons List.length_map List.map_cons List.map_nil Option.map_some Option.map_none if_true if_false ite_true ite_false true_and and_true and_self implies_true forall_const true_implies Bool.false_eq_true Bool.not_true Bool.not_false decide_eq_true_eq decide_eq_false_iff_not eq_self List.getElem?_cons_zero List.getElem?_cons_succ List.getElem?_nil List.set_cons_zero List.set_cons_succ List.nil_append List.cons_append List.append_nil List.replicate_zero List.replicate_succ Nat.zero_add false_implies rng_lt rng_end rng_get cells_I cells_B cells_sl cut_one Int.toNat_natCast Int.natCast_nonneg List.headD_cons Int.lt_irrefl not_false_eq_true decide_false decide_true mI_length mI_cells mI_sz mI_isCell mI_mid mI_append mI_take mI_drop cells_val cells_own cells_agg isCell_I isCell_B isCell_nil isCell_sl isCell_own isCell_ptr isCell_fn isCell_rp isCell_yld cellsOk_I cellsOk_B cellsOk_nil cellsOk_sl cellsOk_own cellsOk_ptr cellsOk_fn cellsOk_rp cellsOk_yld cellsOk_agg cells_nil cells_ptr cells_fn cells_rp List.all_cons List.all_nil Bool.and_true Nat.mul_one Nat.zero_mul Nat.one_mul List.take_zero List.take_nil List.drop_nil List.drop_zero List.not_mem_nil Nat.le_refl Nat.zero_le mS_length mS_cells mS_sz mS_isCell mS_mid mS_append mS_take mS_drop cells_sI isCell_sI cellsOk_sI sI_eq succ_le_self' List.take_succ_cons List.drop_succ_cons List.take_length beq_self_eq_true List.mem_cons or_false forall_eq mI_put mI_rep O_guard' D_earlyG' D_stepG' W_cond' G_tt G_tf G_ft G_ff GE_tt GE_tf GE_ft GE_ff GS_tt GS_tf GS_ft GS_ff G_u GE_u GS_u IC_t IC_f xft xff xtt xtf z00 z20 z22 z02 zz tn0

def half (k M : Int) (x : Int) : Int := IntKind.u64.wrap (bitsI .and .u64 (x.fdiv (2 ^ min (Int.toNat k) 64)) M + bitsI .and .u64 x M)
def fold4 (x : Int) : Int := bitsI .and .u64 (IntKind.u64.wrap (x.fdiv (2 ^ min (Int.toNat 4) 64) + x)) 1085102592571150095
def foldS (k : Int) (x : Int) : Int := IntKind.u64.wrap (x + x.fdiv (2 ^ min (Int.toNat k) 64))
/-- How many bits are set, as the library counts them. -/
def ones (m : Int) : Int := bitsI .and .i64 (IntKind.i64.wrap (foldS 32 (foldS 16 (foldS 8 (fold4 (half 2 3689348814741910323 (half 1 6148914691236517205 m))))))) 127
theorem ones_dec : ∀ k : Nat, k < 64 → ones k = Sp.pc k := by decide +kernel
theorem ones_pc {m : Int} (hm : Sp.isSet m) : ones m = Sp.pc m := Sp.allSets (p := fun m => ones m = Sp.pc m) ones_dec hm

theorem s96 (m : Int) (hm : Sp.isSet m) : Abs.Spec Try.prog 96 [.val (.int .u64 m)] [] fun v H' => H' = [] ∧ v = I (Sp.pc m) := by
  refine Abs.Spec.walk mixed fn96 nn96 t96 q96 nt96 (by simp) ?_
  simp only [w96, go_sem, Nat.reduceEqDiff, Nat.reduceAdd, Nat.reduceLT, Nat.reduceLeDiff, reduceIte, reduceCtorEq]
  refine ⟨by omega, by omega, by omega, by omega, by omega, by omega, ?_⟩
  exact leaf (I (ones m)) rfl ⟨rfl, by rw [ones_pc hm]⟩
theorem s92 (m : Int) (hm : Sp.isSet m) : Abs.Spec Try.prog 92 [.val (.int .u64 m)] [] fun v H' => H' = [] ∧ v = I (Sp.pc m) := by
  refine Abs.Spec.walk mixed fn92 nn92 t92 q92 nt92 (by simp) ?_
  simp only [w92, go_sem, Nat.reduceEqDiff, Nat.reduceAdd, Nat.reduceLT, Nat.reduceLeDiff, reduceIte, reduceCtorEq]
  refine CallK.by (CallV.of_spec (s96 m hm)) fun v H' ⟨h1, h2⟩ => ?_
  subst h1 h2
  simp only [go_sem, Nat.reduceEqDiff, Nat.reduceAdd, Nat.reduceLT, Nat.reduceLeDiff, reduceIte, reduceCtorEq]
  exact leaf (I _) rfl ⟨rfl, rfl⟩
theorem s67 (nn t nn' t' nn2 t2 : Bool) (w : List (List Int)) (set : Int) (a b : List Int) (g : Sp.Good w) (ha : a.length = w.length) (hb : b.length = w.length) :
    Abs.Spec Try.prog 67 [.sl nn t (mS w), I set, .sl nn' t' (mI a), .sl nn2 t2 (mI b)] [] fun v H' => H' = [] ∧ v = .tup [I (Sp.betterN w set a b w.length), I (Sp.worseN w set a b w.length)] := by
  have g1 := g.n1
  have g6 := g.n6
  refine Abs.Spec.walk mixed fn67 nn67 t67 q67 nt67 (by simp) ?_
  simp only [w67, go_sem, Nat.reduceEqDiff, Nat.reduceAdd, Nat.reduceLT, Nat.reduceLeDiff, reduceIte, reduceCtorEq]
  refine W_loop (fun q : { i : Nat // i ≤ w.length } => ([(0, sl nn t (mS w)), (1, I set), (2, sl nn' t' (mI a)), (3, sl nn2 t2 (mI b)), (8, I (Sp.betterN w set a b q.1)), (9, I (Sp.worseN w set a b q.1)), (14, I w.length), (15, I q.1)], [])) (fun q => w.length - q.1)
    ⟨0, by omega⟩ [] (Wk.nil (by simp [fle, vle, Fr.get, mS_bnd, mI_bnd, Sp.betterN, Sp.worseN])) ?_
  rintro ⟨i, hin⟩
  dsimp only
  have hc := Sp.countN_le w set a b i
  by_cases hi : i < w.length
  · have hz : decide ((i : Int) < w.length) = true := decide_eq_true (by omega)
    have hwc : IntKind.i64.wrap ((i : Int) + 1) = ((i + 1 : Nat) : Int) := by rw [wrap64 (by omega) (by omega)]; rfl
    have hb1 : IntKind.i64.wrap ((Sp.betterN w set a b i : Int) + 1) = ((Sp.betterN w set a b i + 1 : Nat) : Int) := by rw [wrap64 (by omega) (by omega)]; rfl
    have hb2 : IntKind.i64.wrap ((Sp.worseN w set a b i : Int) + 1) = ((Sp.worseN w set a b i + 1 : Nat) : Int) := by rw [wrap64 (by omega) (by omega)]; rfl
    have hbs := Sp.betterN_succ w set a b i
    have hws := Sp.worseN_succ w set a b i
    simp only [w67L0, hz, go_sem, Nat.reduceEqDiff, Nat.reduceAdd, Nat.reduceLT, Nat.reduceLeDiff, reduceIte, reduceCtorEq]
    refine IC.split (fun ho => ?_) fun ho => ?_
    · have ho : Sp.outS set i = true := ho
      rw [ho] at hbs hws
      simp only [hwc, go_sem, Nat.reduceEqDiff, Nat.reduceAdd, Nat.reduceLT, Nat.reduceLeDiff, reduceIte, reduceCtorEq]
      refine round0 rfl ⟨i + 1, hi⟩ (by dsimp only; omega) rfl ?_
      simp [fle, vle, Fr.get, mS_bnd, mI_bnd, hbs, hws]
    · have ho : Sp.outS set i = false := ho
      have hia : i < a.length := by omega
      have hib : i < b.length := by omega
      have hgl : (w.getD i []).length < 9223372036854775808 := by have := g.len _ (Sp.getD_mem (d := []) hi); omega
      rw [ho] at hbs hws
      simp only [Bool.not_false, Bool.true_and, Sp.lessAt, decide_eq_true_eq] at hbs hws
      have hA : ∀ x : Int, ∀ H, CallV Try.prog (.fn (.func 61) [] []) [.sl nn t (mS w), I i, I x] H fun v H' => v = I (Sp.pos w i x) ∧ H' = H := fun x H => liftV (s61 nn t w i x hi hgl) (by simp [bndL, AVal.bnd, mS_bnd]) rfl H
      simp only [hia, hib, mI_get, mI_hd, go_sem, Nat.reduceEqDiff, Nat.reduceAdd, Nat.reduceLT, Nat.reduceLeDiff, reduceIte, reduceCtorEq]
      refine ⟨by omega, by simp, ?_⟩
      refine CallKD.pure (hA _) ?_
      simp only [hia, hib, mI_get, mI_hd, go_sem, Nat.reduceEqDiff, Nat.reduceAdd, Nat.reduceLT, Nat.reduceLeDiff, reduceIte, reduceCtorEq]
      refine ⟨by omega, ?_⟩
      refine CallKD.pure (hA _) ?_
      simp only [go_sem, Nat.reduceEqDiff, Nat.reduceAdd, Nat.reduceLT, Nat.reduceLeDiff, reduceIte, reduceCtorEq]
      refine IC.splitP (fun h => ?_) fun h => ?_
      · rw [if_pos h] at hbs
        rw [if_neg (by omega)] at hws
        simp only [hwc, hb1, go_sem, Nat.reduceEqDiff, Nat.reduceAdd, Nat.reduceLT, Nat.reduceLeDiff, reduceIte, reduceCtorEq]
        refine round0 rfl ⟨i + 1, hi⟩ (by dsimp only; omega) rfl ?_
        simp [fle, vle, Fr.get, mS_bnd, mI_bnd, hbs, hws]
      · rw [if_neg h] at hbs
        simp only [go_sem, Nat.reduceEqDiff, Nat.reduceAdd, Nat.reduceLT, Nat.reduceLeDiff, reduceIte, reduceCtorEq]
        refine IC.splitP (fun h' => ?_) fun h' => ?_
        · rw [if_pos (by omega)] at hws
          simp only [hwc, hb2, go_sem, Nat.reduceEqDiff, Nat.reduceAdd, Nat.reduceLT, Nat.reduceLeDiff, reduceIte, reduceCtorEq]
          refine round0 rfl ⟨i + 1, hi⟩ (by dsimp only; omega) rfl ?_
          simp [fle, vle, Fr.get, mS_bnd, mI_bnd, hbs, hws]
        · rw [if_neg (by omega)] at hws
          simp only [hwc, go_sem, Nat.reduceEqDiff, Nat.reduceAdd, Nat.reduceLT, Nat.reduceLeDiff, reduceIte, reduceCtorEq]
          refine round0 rfl ⟨i + 1, hi⟩ (by dsimp only; omega) rfl ?_
          simp [fle, vle, Fr.get, mS_bnd, mI_bnd, hbs, hws]
  · have hz : decide ((i : Int) < w.length) = false := decide_eq_false (by omega)
    obtain rfl : i = w.length := by omega
    simp only [w67L0, hz, w67T1, go_sem, Nat.reduceEqDiff, Nat.reduceAdd, Nat.reduceLT, Nat.reduceLeDiff, reduceIte, reduceCtorEq]
    exact leaf2 (.tup [I (Sp.betterN w set a b w.length), I (Sp.worseN w set a b w.length)]) ⟨rfl, rfl, trivial⟩ ⟨rfl, rfl⟩

noncomputable def rng84 (st : LoopState) (pend : Option Code) (fr : Fr) : Blk := .loop st pend fr 42 #[16] (asOf Try.f84 0) (bdOf Try.f84 0)
noncomputable def Hp84 (w : List (List Int)) (d : List Int) (set : Int) (st : Bool) (fr : Fr) : AHeap := [.cells [.sl false false (mS w)], .cells [I set], .cells [.sl false false (mI d)], .cells [B st], .cells [B false], .defs, rng84 .ready none fr]
noncomputable def Hs84 (w : List (List Int)) (d : List Int) (set : Int) (st : Bool) (fr : Fr) : AHeap := [.cells [.sl false false (mS w)], .cells [I set], .cells [.sl false false (mI d)], .cells [B st], .cells [B true], .defs, rng84 .done (some .ret) fr]
theorem ok84 {w : List (List Int)} {d : List Int} {set : Int} {st : Bool} {fr : Fr} {B : Nat} (hb : (fr.all fun p => p.2.bnd B) = true) : (∀ x ∈ Hp84 w d set st fr, blkOk B x = true) ∧ ∀ x ∈ Hs84 w d set st fr, blkOk B x = true := by
  constructor <;> intro x hx <;> simp only [Hp84, Hs84, List.mem_cons, List.not_mem_nil, or_false] at hx <;> rcases hx with rfl | rfl | rfl | rfl | rfl | rfl | rfl <;> first | exact hb | simp [blkOk, bndL, AVal.bnd, mI_bnd, mS_bnd, vid]

set_option maxHeartbeats 2000000 in
theorem y84 {w : List (List Int)} {d : List Int} {set : Int} {st : Bool} {fr : Fr} (g : Sp.Good w) (hd : d.length = w.length) (hset : Sp.isSet set) (h4 : fr.get 4 = ptr 0 0) (h5 : fr.get 5 = ptr 1 0) (h6 : fr.get 6 = ptr 2 0) (h7 : fr.get 7 = ptr 3 0) (h8 : fr.get 8 = ptr 4 0) (hb : (fr.all fun p => p.2.bnd 11) = true) (D : List Int) (hD : DOk w.length set D) :
    CallV Try.prog (.yld 6) [.own 8 0 w.length w.length 1] (HS (Hp84 w d set st fr) 7 6 w.length set D) fun v H' => (Sp.blkP w d set st D = false ∧ v = B true ∧ H' = HS (Hp84 w d set st fr) 7 6 w.length set D) ∨ (Sp.blkP w d set st D = true ∧ v = B false ∧ H' = HS (Hs84 w d set st fr) 7 6 w.length set D) := by
  have g1 := g.n1
  have g6 := g.n6
  have hDl := hD.len
  refine CallV.yldW mixed (L := 6) (fr := fr) (n := 42) (ps := [16]) rfl t84R0a t84R0b rfl (by simp) ?_
  simp only [w84R0a, putArgs, go_sem, Nat.reduceEqDiff, Nat.reduceAdd, Nat.reduceLT, Nat.reduceLeDiff, reduceIte, reduceCtorEq]
  refine ⟨rfl, ?_⟩
  have hlend : ∀ H' : AHeap, H'[8]? = some (.cells (mI D)) → vle.vleL H' [] [] 3 [.own 8 0 w.length w.length 1] [.sl false false (mI D)] := fun H' hH => ⟨vle_mI hH (by simp) hDl.symm (by rw [← hDl, take_mI]), trivial⟩
  simp only [w84R0b, HS, Hp84, rng84, h4, h5, h6, go_sem, Nat.reduceEqDiff, Nat.reduceAdd, Nat.reduceLT, Nat.reduceLeDiff, reduceIte, reduceCtorEq]
  have hcn := Sp.countN_le w set D d w.length
  refine CallK.pure (CallV.of_spec (Spec.lend (s67 false false false false false false w set D d g hDl hd) rfl ⟨⟨mS_bnd, fun h => h, fun h => h, rfl⟩, rfl, (hlend _ rfl).1, ⟨mI_bnd, fun h => h, fun h => h, rfl⟩, trivial⟩)) ?_
  have hP : Sp.blkP w d set st D = (Sp.worseN w set D d w.length == 0 && (decide (0 < Sp.betterN w set D d w.length) && (!st || Sp.betterN w set D d w.length == Sp.pc set))) := rfl
  generalize Sp.worseN w set D d w.length = Wn at hP hcn
  generalize Sp.betterN w set D d w.length = Bn at hP hcn
  have e0 : ((Wn : Int) == 0) = (Wn == 0) := by rw [Bool.eq_iff_iff, beq_iff_eq, beq_iff_eq]; omega
  have e1 : decide ((Bn : Int) > 0) = decide (0 < Bn) := decide_eq_decide.2 (by omega)
  have e1' : decide (0 < (Bn : Int)) = decide (0 < Bn) := decide_eq_decide.2 (by omega)
  have e2 : ((Bn : Int) == (Sp.pc set : Int)) = (Bn == Sp.pc set) := by rw [Bool.eq_iff_iff, beq_iff_eq, beq_iff_eq]; omega
  have hwr : IntKind.u64.wrap set = set := by
    have := hset.1; have := hset.2
    unfold IntKind.wrap
    simp [IntKind.signed, IntKind.bits]
    omega
  have go : ∀ x, Sp.blkP w d set st D = x → ∃ ρ H3, Wk 11 [] ρ [] (HS (if x then Hs84 w d set st fr else Hp84 w d set st fr) 7 6 w.length set D) [] H3 ∧ ((Sp.blkP w d set st D = false ∧ B (!x) = B true ∧ H3 = HS (Hp84 w d set st fr) 7 6 w.length set D) ∨ (Sp.blkP w d set st D = true ∧ B (!x) = B false ∧ H3 = HS (Hs84 w d set st fr) 7 6 w.length set D)) := fun x h => by
    cases x with
    | false => exact ⟨idρ 11, _, WkB (B := 11) rfl (HS_ok D (by omega) (ok84 hb).1) (by simp), .inl ⟨h, rfl, rfl⟩⟩
    | true => exact ⟨idρ 11, _, WkB (B := 11) rfl (HS_ok D (by omega) (ok84 hb).2) (by simp), .inr ⟨h, rfl, rfl⟩⟩
  simp only [List.getD_cons_zero, List.getD_cons_succ, e0, e1, e1', go_sem, Nat.reduceEqDiff, Nat.reduceAdd, Nat.reduceLT, Nat.reduceLeDiff, reduceIte, reduceCtorEq]
  refine G.split (fun hw => ?_) fun hw => ?_
  · rw [hw, Bool.true_and] at hP
    simp only [e1, e1', go_sem, Nat.reduceEqDiff, Nat.reduceAdd, Nat.reduceLT, Nat.reduceLeDiff, reduceIte, reduceCtorEq]
    refine G.split (fun h1 => ?_) fun h1 => ?_
    · rw [h1, Bool.true_and] at hP
      simp only [h7, go_sem, Nat.reduceEqDiff, Nat.reduceAdd, Nat.reduceLT, Nat.reduceLeDiff, reduceIte, reduceCtorEq]
      cases st with
      | false =>
        simp only [Bool.not_false, h8, go_sem, Nat.reduceEqDiff, Nat.reduceAdd, Nat.reduceLT, Nat.reduceLeDiff, reduceIte, reduceCtorEq]
        exact go true (by rw [hP]; rfl)
      | true =>
        rw [Bool.not_true, Bool.false_or] at hP
        simp only [Bool.not_true, h5, hwr, go_sem, Nat.reduceEqDiff, Nat.reduceAdd, Nat.reduceLT, Nat.reduceLeDiff, reduceIte, reduceCtorEq]
        refine CallK.pure (liftV (s92 set hset) rfl rfl _) ?_
        simp only [e2, go_sem, Nat.reduceEqDiff, Nat.reduceAdd, Nat.reduceLT, Nat.reduceLeDiff, reduceIte, reduceCtorEq]
        refine IC.split (fun h2 => ?_) fun h2 => ?_
        · simp only [h8, go_sem, Nat.reduceEqDiff, Nat.reduceAdd, Nat.reduceLT, Nat.reduceLeDiff, reduceIte, reduceCtorEq]
          exact go true (by rw [hP, h2])
        · simp only [go_sem, Nat.reduceEqDiff, Nat.reduceAdd, Nat.reduceLT, Nat.reduceLeDiff, reduceIte, reduceCtorEq]
          exact go false (by rw [hP, h2])
    · rw [h1, Bool.false_and] at hP
      simp only [go_sem, Nat.reduceEqDiff, Nat.reduceAdd, Nat.reduceLT, Nat.reduceLeDiff, reduceIte, reduceCtorEq]
      exact go false hP
  · rw [hw, Bool.false_and] at hP
    simp only [go_sem, Nat.reduceEqDiff, Nat.reduceAdd, Nat.reduceLT, Nat.reduceLeDiff, reduceIte, reduceCtorEq]
    exact go false hP
end Go.Proofs.Ytkmmngphcodjjaa

namespace Go.Proofs.Ytkmmngphcodjjaa
open Go.Abs AVal
set_option linter.unusedSimpArgs false
attribute [local go_sem] W_skip W_keep KQ_canon canon Fr.norm W_seq W_block W_exit W_ret W_ops W_draw KQ_nil KQ_norm_seq KQ_exit_seq KQ_ret_seq KQ_norm_block KQ_ret_block KQ_exit_block KQ_exit_loop KQ_ret_loop O_nil O_cons S_call S_mv SE_mv SD_mv S_pick SE_pick SD_pick S_bin SE_bin SD_bin S_eqb SE_eqb SD_eqb S_eqv SE_eqv SD_eqv S_eqnil SE_eqnil SD_eqnil S_un SE_un SD_un S_conv SE_conv SD_conv S_mkfn SE_mkfn SD_mkfn S_load SE_load SD_load S_nilck SE_nilck SD_nilck S_slS SE_slS SD_slS S_slP SE_slP SD_slP S_fldA SE_fldA SD_fldA S_fld SE_fld SD_fld S_ixS SE_ixS SD_ixS S_ixP SE_ixP SD_ixP S_ixV SE_ixV SD_ixV S_ixStr SE_ixStr SD_ixStr S_ext SE_ext SD_ext S_len SE_len SD_len S_lenStr SE_lenStr SD_lenStr S_lenc SE_lenc SD_lenc S_mn SE_mn SD_mn S_mx SE_mx SD_mx S_build SE_build SD_build S_alloc SD_alloc S_box SD_box S_bslice SD_bslice S_mksl SD_mksl S_store SD_store S_append SD_append S_copy SD_copy S_clr SD_clr aq_some aa_some al_some aqd_some aad_some ald_some ape_some D_done D_both D_early D_step SE_call SD_call IOpd.ev Fr.get Fr.put Fr.putd entryFr pickA binA binI isSh shI eqbA eqvA ints ints_mI Option.map_some eqnilA unA convA loadA nilckA intA slSA slPA fldAA fldVA ixSA ixPA ixVA ixStrA extA lenA lenStrA mnA mxA AVal.fits fillA fillOk buildA opa srcA appA stoA copA clrA rdFree zeros List.length_nil List.length_cons List.length_map List.map_cons List.map_nil Option.map_some Option.map_none if_true if_false ite_true ite_false true_and and_true and_self implies_true forall_const true_implies Bool.false_eq_true Bool.not_true Bool.not_false decide_eq_true_eq decide_eq_false_iff_not eq_self List.getElem?_cons_zero List.getElem?_cons_succ List.getElem?_nil List.set_cons_zero List.set_cons_succ List.nil_append List.cons_append List.append_nil List.replicate_zero List.replicate_succ Nat.zero_add false_implies rng_lt rng_end rng_get cells_I cells_B cells_sl cut_one Int.toNat_natCast Int.natCast_nonneg List.headD_cons Int.lt_irrefl not_false_eq_true decide_false decide_true mI_length mI_cells mI_sz mI_isCell mI_mid mI_append mI_take mI_drop cells_val cells_own cells_agg isCell_I isCell_B isCell_nil isCell_sl isCell_own isCell_ptr isCell_fn isCell_rp isCell_yld cellsOk_I cellsOk_B cellsOk_nil cellsOk_sl cellsOk_own cellsOk_ptr cellsOk_fn cellsOk_rp cellsOk_yld cellsOk_agg cells_nil cells_ptr cells_fn cells_rp List.all_cons List.all_nil Bool.and_true Nat.mul_one Nat.zero_mul Nat.one_mul List.take_zero List.take_nil List.drop_nil List.drop_zero List.not_mem_nil Nat.le_refl Nat.zero_le mS_length mS_cells mS_sz mS_isCell mS_mid mS_append mS_take mS_drop cells_sI isCell_sI cellsOk_sI sI_eq succ_le_self' List.take_succ_cons List.drop_succ_cons List.take_length beq_self_eq_true List.mem_cons or_false forall_eq mI_put mI_rep O_guard' D_earlyG' D_stepG' W_cond' G_tt G_tf G_ft G_ff GE_tt GE_tf GE_ft GE_ff GS_tt GS_tf GS_ft GS_ff G_u GE_u GS_u IC_t IC_f xft xff xtt xtf z00 z20 z22 z02 zz tn0

theorem leafC1 {ag : Bool} {k t : Nat} {e : Ex} {fr : Fr} {H : AHeap} {R : AVal → AHeap → Prop} (u v : AVal) {p : Prop} (h : loadA ag k (fr.get t) H = some (p, u)) (hp : p) (hv : vle H [] [] 3 u v) (hR : R v []) (he : e = .norm ∨ e = .ret := by simp) : retA 0 [.cell ag k t] R e fr H [] := by
  refine ⟨he, ?_⟩
  simp only [killM, resL, resA, h]
  exact ⟨⟨hp, trivial⟩, [], v, [], Wk.nil ⟨hv, trivial⟩, hR⟩

/-- Whether a set blocks a deal. -/
def blocksP (w : List (List Int)) (d : List Int) (set : Int) (st : Bool) : Bool := (Sp.comps w.length set w.length 0 set []).any (Sp.blkP w d set st)
theorem find_any {α : Type} {p : α → Bool} : ∀ {l : List α}, l.any p = (l.find? p).isSome
  | [] => rfl
  | x :: l => by
    rw [List.any_cons, List.find?_cons, find_any]
    cases p x <;> rfl

set_option maxHeartbeats 2000000 in
theorem s84r {w : List (List Int)} {d : List Int} {set : Int} {st : Bool} {fr : Fr} (g : Sp.Good w) (hd : d.length = w.length) (hset : Sp.isSet set) (h4 : fr.get 4 = ptr 0 0) (h5 : fr.get 5 = ptr 1 0) (h6 : fr.get 6 = ptr 2 0) (h7 : fr.get 7 = ptr 3 0) (h8 : fr.get 8 = ptr 4 0) (h15 : fr.get 15 = .fn (.func 82) [] [.rp [I w.length], .rp [I set]])
    (hb7 : (fr.all fun p => p.2.bnd 7) = true) (hb11 : (fr.all fun p => p.2.bnd 11) = true) :
    W ⟨Try.prog, 0, 42, true⟩ (retA 0 r84 fun v H' => H' = [] ∧ v = B (blocksP w d set st)) (.range (.t 15) [16] (asOf Try.f84 0) (bdOf Try.f84 0)) [.block 0, .seq c84T0] fr
      [.cells [.sl false false (mS w)], .cells [I set], .cells [.sl false false (mI d)], .cells [B st], .cells [B false]] [] := by
  refine W_range rfl h15 ((s82 (Hp := Hp84 w d set st fr) (Hs := fun _ => Hs84 w d set st fr) (b := 7) (L := 6) (n := w.length) (set := set) (p := Sp.blkP w d set st) rfl (by omega) g.n1 g.n6 (ok84 hb7).1 (ok84 hb11).1 (fun _ => rfl) (fun _ => (ok84 hb7).2) (fun _ => (ok84 hb11).2) (fun D hD => y84 g hd hset h4 h5 h6 h7 h8 hb11 D hD)).mono fun v H' hv => ?_)
  unfold allR at hv
  rw [blocksP, find_any]
  cases hf : (Sp.comps w.length set w.length 0 set []).find? (Sp.blkP w d set st) with
  | none =>
    rw [hf] at hv
    dsimp only at hv
    subst hv
    refine ⟨.ready, none, rfl, (fun h => by cases h), ?_⟩
    show KQ _ _ .norm _ _ _ _
    simp only [Hp84, w84T0, h8, go_sem, Nat.reduceEqDiff, Nat.reduceAdd, Nat.reduceLT, Nat.reduceLeDiff, reduceIte, reduceCtorEq]
    exact leafC1 (B false) (B false) (p := 0 + 1 ≤ 1 ∧ (false = false → 1 = 1)) (by rw [h8]; rfl) ⟨by simp, by simp⟩ rfl ⟨rfl, rfl⟩
  | some o =>
    rw [hf] at hv
    dsimp only at hv
    subst hv
    refine ⟨.done, some .ret, rfl, (fun h => by cases h), ?_⟩
    show KQ _ _ .ret _ _ _ _
    simp only [Hs84, go_sem, Nat.reduceEqDiff, Nat.reduceAdd, Nat.reduceLT, Nat.reduceLeDiff, reduceIte, reduceCtorEq]
    exact leafC1 (B true) (B true) (p := 0 + 1 ≤ 1 ∧ (false = false → 1 = 1)) (by rw [h8]; rfl) ⟨by simp, by simp⟩ rfl ⟨rfl, rfl⟩

set_option maxHeartbeats 2000000 in
theorem s84 (w : List (List Int)) (d : List Int) (set : Int) (st : Bool) (g : Sp.Good w) (hd : d.length = w.length) (hset : Sp.isSet set) :
    Abs.Spec Try.prog 84 [.sl false false (mS w), I set, .sl false false (mI d), B st] [] fun v H' => H' = [] ∧ v = B (blocksP w d set st) := by
  refine Abs.Spec.walk mixed fn84 nn84 t84 q84 nt84 (by simp) ?_
  have g1 := g.n1
  have g6 := g.n6
  simp only [w84R0a, w84R0b, w84T0, w84, go_sem, Nat.reduceEqDiff, Nat.reduceAdd, Nat.reduceLT, Nat.reduceLeDiff, reduceIte, reduceCtorEq]
  refine CallK.pure (liftV (s63 w.length set) (by simp [bndL, AVal.bnd]) (by simp [bndL, AVal.bnd]) _) ?_
  simp only [go_sem, Nat.reduceEqDiff, Nat.reduceAdd, Nat.reduceLT, Nat.reduceLeDiff, reduceIte, reduceCtorEq]
  exact s84r g hd hset rfl rfl rfl rfl rfl rfl (by simp [AVal.bnd, bndL, mI_bnd, mS_bnd]) (by simp [AVal.bnd, bndL, mI_bnd, mS_bnd])

theorem two_pow {n : Nat} (h : n ≤ 6) : 1 ≤ 2 ^ n ∧ 2 ^ n ≤ 64 ∧ IntKind.i64.wrap (1 * 2 ^ min (n : Int).toNat 64) = ((2 ^ n : Nat) : Int) := by
  have : ∀ n : Nat, n < 7 → 1 ≤ 2 ^ n ∧ 2 ^ n ≤ 64 ∧ IntKind.i64.wrap (1 * 2 ^ min (n : Int).toNat 64) = ((2 ^ n : Nat) : Int) := by decide +kernel
  exact this n (by omega)
/-- The least set that blocks, from one on. -/
def blockG (w : List (List Int)) (d : List Int) (st : Bool) (k : Nat) : Nat → Int × Int
  | 0 => (0, 4)
  | m + 1 => if blocksP w d k st then (k, 0) else blockG w d st (k + 1) m
def blockA (w : List (List Int)) (d : List Int) (st : Bool) : Int × Int := if Sp.valid w && Sp.isOrder d w.length then blockG w d st 1 (2 ^ w.length - 1) else (0, 2)

set_option maxHeartbeats 2000000 in
theorem s66 (w : List (List Int)) (d : List Int) (st : Bool) (hw : ∀ l ∈ w, l.length < 9223372036854775808) (hl : w.length < 9223372036854775808) (hd : d.length < 9223372036854775808) :
    Abs.Spec Try.prog 66 [.sl false false (mS w), .sl false false (mI d), B st] [] fun v H' => H' = [] ∧ v = .tup [I (blockA w d st).1, I (blockA w d st).2] := by
  refine Abs.Spec.walk mixed fn66 nn66 t66 q66 nt66 (by simp) ?_
  have eBad : (Sp.valid w && Sp.isOrder d w.length) = false → blockA w d st = (0, 2) := fun h => by rw [blockA, h]; rfl
  simp only [w66T1, w66L0, w66, go_sem, Nat.reduceEqDiff, Nat.reduceAdd, Nat.reduceLT, Nat.reduceLeDiff, reduceIte, reduceCtorEq]
  refine CallK.pure (liftV (s55 false false w hw hl) (by simp [bndL, AVal.bnd, mS_bnd]) rfl _) ?_
  simp only [go_sem, Nat.reduceEqDiff, Nat.reduceAdd, Nat.reduceLT, Nat.reduceLeDiff, reduceIte, reduceCtorEq]
  refine G.split (fun hv => ?_) fun hv => ?_
  · have hv : Sp.valid w = false := by simpa using hv
    simp only [go_sem, Nat.reduceEqDiff, Nat.reduceAdd, Nat.reduceLT, Nat.reduceLeDiff, reduceIte, reduceCtorEq]
    exact leaf2 (.tup [I 0, I 2]) ⟨rfl, rfl, trivial⟩ ⟨rfl, by rw [eBad (by rw [hv]; rfl)]⟩
  have hv : Sp.valid w = true := by simpa using hv
  have g := Sp.valid_good hv
  have g1 := g.n1
  have g6 := g.n6
  simp only [go_sem, Nat.reduceEqDiff, Nat.reduceAdd, Nat.reduceLT, Nat.reduceLeDiff, reduceIte, reduceCtorEq]
  refine CallK.pure (liftV (s59 false false d w.length hd) (by simp [bndL, AVal.bnd, mI_bnd]) rfl _) ?_
  simp only [go_sem, Nat.reduceEqDiff, Nat.reduceAdd, Nat.reduceLT, Nat.reduceLeDiff, reduceIte, reduceCtorEq]
  refine IC.split (fun ha => ?_) fun ha => ?_
  · have ha : Sp.isOrder d w.length = false := by simpa using ha
    simp only [go_sem, Nat.reduceEqDiff, Nat.reduceAdd, Nat.reduceLT, Nat.reduceLeDiff, reduceIte, reduceCtorEq]
    exact leaf2 (.tup [I 0, I 2]) ⟨rfl, rfl, trivial⟩ ⟨rfl, by rw [eBad (by rw [hv, ha]; rfl)]⟩
  have ha : Sp.isOrder d w.length = true := by simpa using ha
  have hdl : d.length = w.length := (Sp.order_spec g6 ha).1
  have hA : blockA w d st = blockG w d st 1 (2 ^ w.length - 1) := by rw [blockA, hv, ha]; rfl
  have hp := two_pow g6
  simp only [go_sem, Nat.reduceEqDiff, Nat.reduceAdd, Nat.reduceLT, Nat.reduceLeDiff, reduceIte, reduceCtorEq]
  refine W_loop (fun q : { k : Nat // 1 ≤ k ∧ k ≤ 2 ^ w.length ∧ blockG w d st k (2 ^ w.length - k) = blockA w d st } => ([(0, .sl false false (mS w)), (1, .sl false false (mI d)), (2, B st), (8, .sl false false (mS w)), (9, I q.1)], [])) (fun q => 2 ^ w.length - q.1)
    ⟨1, Nat.le_refl 1, hp.1, hA.symm⟩ [] (Wk.nil (by simp [fle, vle, Fr.get, mS_bnd, mI_bnd])) ?_
  rintro ⟨k, hk1, hkn, hk⟩
  dsimp only
  by_cases hlt : k < 2 ^ w.length
  · have hz : decide ((k : Int) < IntKind.i64.wrap (1 * 2 ^ min (w.length : Int).toNat 64)) = true := by rw [hp.2.2]; exact decide_eq_true (by omega)
    have hz' : decide ((k : Int) < IntKind.i64.wrap (1 * 2 ^ min w.length 64)) = true := hz
    have hwc : IntKind.i64.wrap ((k : Int) + 1) = ((k + 1 : Nat) : Int) := by rw [wrap64 (by omega) (by omega)]; rfl
    have e : 2 ^ w.length - k = (2 ^ w.length - (k + 1)) + 1 := by omega
    rw [e] at hk
    simp only [w66L0, hz, hz', go_sem, Nat.reduceEqDiff, Nat.reduceAdd, Nat.reduceLT, Nat.reduceLeDiff, reduceIte, reduceCtorEq]
    refine CallK.pure (liftV (s84 w d k st g hdl ⟨by omega, by omega⟩) (by simp [bndL, AVal.bnd, mS_bnd, mI_bnd]) rfl _) ?_
    simp only [go_sem, Nat.reduceEqDiff, Nat.reduceAdd, Nat.reduceLT, Nat.reduceLeDiff, reduceIte, reduceCtorEq]
    refine IC.split (fun h => ?_) fun h => ?_
    · simp only [go_sem, Nat.reduceEqDiff, Nat.reduceAdd, Nat.reduceLT, Nat.reduceLeDiff, reduceIte, reduceCtorEq]
      refine leaf2 (.tup [I k, I 0]) ⟨rfl, rfl, trivial⟩ ⟨rfl, ?_⟩
      rw [← hk, blockG, if_pos h]
    · simp only [hwc, go_sem, Nat.reduceEqDiff, Nat.reduceAdd, Nat.reduceLT, Nat.reduceLeDiff, reduceIte, reduceCtorEq]
      refine round0 rfl ⟨k + 1, by omega, by omega, by rw [← hk]; conv => rhs; rw [blockG, if_neg (by rw [h]; simp)]⟩ (by dsimp only; omega) rfl ?_
      simp [fle, vle, Fr.get, mS_bnd, mI_bnd]
  · have hz : decide ((k : Int) < IntKind.i64.wrap (1 * 2 ^ min (w.length : Int).toNat 64)) = false := by rw [hp.2.2]; exact decide_eq_false (by omega)
    have hz' : decide ((k : Int) < IntKind.i64.wrap (1 * 2 ^ min w.length 64)) = false := hz
    simp only [w66L0, hz, hz', w66T1, go_sem, Nat.reduceEqDiff, Nat.reduceAdd, Nat.reduceLT, Nat.reduceLeDiff, reduceIte, reduceCtorEq]
    refine leaf2 (.tup [I 0, I 4]) ⟨rfl, rfl, trivial⟩ ⟨rfl, ?_⟩
    rw [show 2 ^ w.length - k = 0 by omega, blockG] at hk
    rw [← hk]

theorem s37 (w : List (List Int)) (d : List Int) (hw : ∀ l ∈ w, l.length < 9223372036854775808) (hl : w.length < 9223372036854775808) (hd : d.length < 9223372036854775808) :
    Abs.Spec Try.prog 37 [.sl false false (mS w), .sl false false (mI d)] [] fun v H' => H' = [] ∧ v = .tup [I (blockA w d false).1, I (blockA w d false).2] := by
  refine Abs.Spec.walk mixed fn37 nn37 t37 q37 nt37 (by simp) ?_
  simp only [w37, go_sem, Nat.reduceEqDiff, Nat.reduceAdd, Nat.reduceLT, Nat.reduceLeDiff, reduceIte, reduceCtorEq]
  refine CallK.by (CallV.of_spec (s66 w d false hw hl hd)) fun v H' ⟨h1, h2⟩ => ?_
  subst h1 h2
  simp only [List.getD_cons_zero, List.getD_cons_succ, go_sem, Nat.reduceEqDiff, Nat.reduceAdd, Nat.reduceLT, Nat.reduceLeDiff, reduceIte, reduceCtorEq]
  exact leaf2 (.tup [I (blockA w d false).1, I (blockA w d false).2]) ⟨rfl, rfl, trivial⟩ ⟨rfl, rfl⟩
theorem s38 (w : List (List Int)) (d : List Int) (hw : ∀ l ∈ w, l.length < 9223372036854775808) (hl : w.length < 9223372036854775808) (hd : d.length < 9223372036854775808) :
    Abs.Spec Try.prog 38 [.sl false false (mS w), .sl false false (mI d)] [] fun v H' => H' = [] ∧ v = .tup [I (blockA w d true).1, I (blockA w d true).2] := by
  refine Abs.Spec.walk mixed fn38 nn38 t38 q38 nt38 (by simp) ?_
  simp only [w38, go_sem, Nat.reduceEqDiff, Nat.reduceAdd, Nat.reduceLT, Nat.reduceLeDiff, reduceIte, reduceCtorEq]
  refine CallK.by (CallV.of_spec (s66 w d true hw hl hd)) fun v H' ⟨h1, h2⟩ => ?_
  subst h1 h2
  simp only [List.getD_cons_zero, List.getD_cons_succ, go_sem, Nat.reduceEqDiff, Nat.reduceAdd, Nat.reduceLT, Nat.reduceLeDiff, reduceIte, reduceCtorEq]
  exact leaf2 (.tup [I (blockA w d true).1, I (blockA w d true).2]) ⟨rfl, rfl, trivial⟩ ⟨rfl, rfl⟩
end Go.Proofs.Ytkmmngphcodjjaa
