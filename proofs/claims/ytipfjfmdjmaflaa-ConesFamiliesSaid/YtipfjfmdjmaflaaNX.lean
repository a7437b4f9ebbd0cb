/- ConesFamilies: Family and Count answer as the reference's Family; From the model's arguments to abstract values, and from a contract to the model's call. -/
import Derived.Test.YtipfjfmdjmaflaaNS
import Derived.Test.YtipfjfmdjmaflaaNV
import Derived.Test.YtipfjfmdjmaflaaNH
import Derived.Test.YtipfjfmdjmaflaaMA
import Derived.Test.YtipfjfmdjmaflaaAP
import Derived.Below
namespace Go.Proofs.Ytipfjfmdjmaflaa
open Go.Abs AVal
set_option linter.unusedSimpArgs false
attribute [local go_sem] W_skip W_keep KQ_canon canon Fr.norm W_seq W_block W_scope W_exit W_ret W_ops W_draw KQ_nil KQ_norm_seq KQ_exit_seq KQ_ret_seq KQ_norm_block KQ_ret_block KQ_exit_block KQ_exit_loop KQ_ret_loop O_nil O_cons S_call S_mv SE_mv SD_mv S_pick SE_pick SD_pick S_bin SE_bin SD_bin S_eqb SE_eqb SD_eqb S_eqv SE_eqv SD_eqv S_eqnil SE_eqnil SD_eqnil S_un SE_un SD_un S_conv SE_conv SD_conv S_mkfn SE_mkfn SD_mkfn S_load SE_load SD_load S_nilck SE_nilck SD_nilck S_slS SE_slS SD_slS S_slP SE_slP SD_slP S_fldA SE_fldA SD_fldA S_fld SE_fld SD_fld S_ixS SE_ixS SD_ixS S_ixP SE_ixP SD_ixP S_ixV SE_ixV SD_ixV S_ixStr SE_ixStr SD_ixStr S_ext SE_ext SD_ext S_len SE_len SD_len S_lenStr SE_lenStr SD_lenStr S_lenc SE_lenc SD_lenc S_mn SE_mn SD_mn S_mx SE_mx SD_mx S_build SE_build SD_build S_alloc SD_alloc S_box SD_box S_bslice SD_bslice S_mksl SD_mksl S_store SD_store S_append SD_append S_copy SD_copy S_clr SD_clr S_mlen SE_mlen SD_mlen S_mget SE_mget SD_mget S_mval SE_mval SD_mval S_mentry SE_mentry SD_mentry S_mkmap SD_mkmap S_mset SD_mset S_mrange SD_mrange S_mnext mlenA mgetA mvalA mentryA msetA mrangeA cells_mp isCell_mp cellsOk_mp aq_some aa_some al_some alA_some aqd_some aad_some ald_some ape_some D_done D_both D_early D_step SE_call SD_call IOpd.ev Fr.get Fr.put Fr.putd entryFr pickA binA binI isSh shI eqbA eqvA ints ints_mI Option.map_some eqnilA unA convA loadA nilckA intA slSA slPA fldAA fldVA ixSA ixPA ixVA ixStrA extA lenA lenStrA mnA mxA AVal.fits fillA fillOk buildA opa srcA appA stoA copA clrA rdFree zeros List.length_nil List.length_cons List.length_map List.map_cons List.map_nil Option.map_some Option.map_none if_true if_false ite_true ite_false true_and and_true and_self implies_true forall_const true_implies Bool.false_eq_true Bool.not_true Bool.not_false decide_eq_true_eq decide_eq_false_iff_not eq_self List.getElem?_cons_zero List.getElem?_cons_succ List.getElem?_nil List.set_cons_zero List.set_cons_succ List.nil_append List.cons_append List.append_nil List.replicate_zero List.replicate_succ Nat.zero_add false_implies rng_lt rng_end rng_get cells_I cells_B cells_sl cut_one Int.toNat_natCast Int.natCast_nonneg List.headD_cons Int.lt_irrefl not_false_eq_true decide_false decide_true mI_length mI_cells mI_sz mI_isCell mI_mid mI_append mI_take mI_drop cells_val cells_own cells_agg isCell_I isCell_B isCell_nil isCell_sl isCell_own isCell_ptr isCell_fn isCell_rp isCell_yld cellsOk_I cellsOk_B cellsOk_nil cellsOk_sl cellsOk_own cellsOk_ptr cellsOk_fn cellsOk_rp cellsOk_yld cellsOk_agg cells_nil cells_ptr cells_fn cells_rp List.all_cons List.all_nil Bool.and_true Nat.mul_one Nat.zero_mul Nat.one_mul List.take_zero List.take_nil List.drop_nil List.drop_zero List.not_mem_nil Nat.le_refl Nat.zero_le mS_length mS_cells mS_sz mS_isCell mS_mid mS_append mS_take mS_drop cells_sI isCell_sI cellsOk_sI sI_eq succ_le_self' List.take_succ_cons List.drop_succ_cons List.take_length beq_self_eq_true List.mem_cons or_false forall_eq mI_put mI_rep O_guard' D_earlyG' D_stepG' W_cond' G_tt G_tf G_ft G_ff GE_tt GE_tf GE_ft GE_ff GS_tt GS_tf GS_ft GS_ff G_u GE_u GS_u IC_t IC_f xft xff xtt xtf z00 z20 z22 z02 zz tn0
theorem mI_inj {xs ys : List Int} (h : mI xs = mI ys) : xs = ys := (List.map_inj_right (f := I) fun x y h => by simpa using h).1 h
theorem mS_inj {xs ys : List (List Int)} (h : mS xs = mS ys) : xs = ys := (List.map_inj_right (f := sI) fun x y h => mI_inj (by simpa [sI] using h)).1 h
theorem purL_pos {a : List (List Int)} : ((Sp.purL a).length > 0) ↔ (Sp.basL a).any posV = true := by
  rw [List.any_eq_true]
  unfold Sp.purL
  constructor
  · intro h
    obtain ⟨y, hy⟩ := List.exists_mem_of_length_pos h
    exact ⟨y, (List.mem_filter.1 hy).1, (List.mem_filter.1 hy).2⟩
  · rintro ⟨y, hy, hp⟩
    exact List.length_pos_of_mem (List.mem_filter.2 ⟨hy, hp⟩)
theorem vec_same {a : List (List Int)} {x : List Int} {lo hi : Int} (h : Sp.vecOk a x lo hi = true) : Sp.table6 a = a ∧ x.take 6 = x := by
  unfold Sp.vecOk at h
  simp only [Bool.and_eq_true, decide_eq_true_eq] at h
  obtain ⟨hm, xl, -⟩ := h
  obtain ⟨-, -, n1, n4⟩ := mat_rows hm
  exact ⟨Sp.mat_table.2 hm, List.take_of_length_le (by omega)⟩
set_option maxRecDepth 20000 in
set_option maxHeartbeats 4000000 in
theorem law16 (a : List (List Int)) (x : List Int) (ha : ∀ l ∈ a, l.length < 9223372036854775808) (hl : a.length < 9223372036854775808) (hx : x.length < 9223372036854775808) :
    Abs.Spec Try.prog 16 [.sl false false (mS a), .sl false false (mI x)] [] fun v H' => H' = [] ∧ v = B true := by
  obtain ⟨t1, t2⟩ := tab6_len ha hl
  have x6 : (x.take 6).length < 9223372036854775808 := by rw [List.length_take]; omega
  have e18 : ∀ H, CallV Try.prog (.fn (.func 18) [] []) [.sl false false (mS a)] H fun v H' => v = .sl false false (mS (Sp.table6 a)) ∧ H' = H := fun H => liftV (s18 false false a ha hl) (by simp [bndL, AVal.bnd, mS_bnd]) (by simp [AVal.bnd, mS_bnd]) H
  have e19 : ∀ H, CallV Try.prog (.fn (.func 19) [] []) [.sl false false (mI x)] H fun v H' => v = .sl false false (mI (x.take 6)) ∧ H' = H := fun H => liftV (s19 false false x hx) (by simp [bndL, AVal.bnd, mI_bnd]) (by simp [AVal.bnd, mI_bnd]) H
  have e25 : ∀ H, CallV Try.prog (.fn (.func 25) [] []) [] H fun v H' => v = B true ∧ H' = H := fun H => liftV s25 rfl rfl H
  have e21 : ∀ H, CallV Try.prog (.fn (.func 21) [] []) [.sl false false (mS a), .sl false false (mI x), I 0, I 6] H fun v H' => v = B (Sp.vecOk a x 0 6) ∧ H' = H := fun H => liftV (s21 false false false false a x 0 6 ha hl hx) (by simp [bndL, AVal.bnd, mS_bnd, mI_bnd]) rfl H
  refine Abs.Spec.walk mixed fn16 nn16 t16 q16 nt16 (by simp) ?_
  simp only [w16, go_sem, Nat.reduceEqDiff, Nat.reduceAdd, Nat.reduceLT, Nat.reduceLeDiff, reduceIte, reduceCtorEq]
  refine CallK.pure (e18 _) ?_
  simp only [go_sem, Nat.reduceEqDiff, Nat.reduceAdd, Nat.reduceLT, Nat.reduceLeDiff, reduceIte, reduceCtorEq]
  refine CallK.pure (e19 _) ?_
  simp only [go_sem, Nat.reduceEqDiff, Nat.reduceAdd, Nat.reduceLT, Nat.reduceLeDiff, reduceIte, reduceCtorEq]
  refine CallK.by (CallV.of_spec (first := []) (cap := []) (s59 (Sp.table6 a) (x.take 6) t1 t2 x6)) fun v H' ⟨hH, hr⟩ => ?_
  subst hH
  obtain ⟨F, e, hv, hF⟩ : ∃ F e, v = .tup [.sl false false (mS F), I e] ∧ famR (Sp.table6 a) (x.take 6) (.tup [.sl false false (mS F), I e]) := by
    rcases id hr with ⟨-, rfl⟩ | ⟨-, -, rfl⟩ | ⟨-, -, F, -, -, -, rfl⟩ <;> exact ⟨_, _, rfl, hr⟩
  subst hv
  simp only [List.getD_cons_zero, List.getD_cons_succ, go_sem, Nat.reduceEqDiff, Nat.reduceAdd, Nat.reduceLT, Nat.reduceLeDiff, reduceIte, reduceCtorEq]
  refine CallK.pure (e18 _) ?_
  simp only [go_sem, Nat.reduceEqDiff, Nat.reduceAdd, Nat.reduceLT, Nat.reduceLeDiff, reduceIte, reduceCtorEq]
  refine CallK.pure (e19 _) ?_
  simp only [go_sem, Nat.reduceEqDiff, Nat.reduceAdd, Nat.reduceLT, Nat.reduceLeDiff, reduceIte, reduceCtorEq]
  refine CallK.by (CallV.of_spec (first := []) (cap := []) (s58 (Sp.table6 a) (x.take 6) t1 t2 x6)) fun v H' ⟨hH, hc⟩ => ?_
  subst hH
  obtain ⟨n, f, hv, hC⟩ : ∃ n f, v = .tup [I n, I f] ∧ countR (Sp.table6 a) (x.take 6) (.tup [I n, I f]) := by
    rcases id hc with ⟨-, rfl⟩ | ⟨-, -, rfl⟩ | ⟨-, -, F, -, -, rfl⟩ <;> exact ⟨_, _, rfl, hc⟩
  subst hv
  clear hr hc
  simp only [List.getD_cons_zero, List.getD_cons_succ, go_sem, Nat.reduceEqDiff, Nat.reduceAdd, Nat.reduceLT, Nat.reduceLeDiff, reduceIte, reduceCtorEq]
  refine CallK.pure (e21 _) ?_
  have z0 : ((0 : Int) == 0) = true := rfl
  have z2 : ((2 : Int) == 2) = true := rfl
  have z5 : ((5 : Int) == 5) = true := rfl
  have ln : (mS []).length = 0 := rfl
  have z0' : (((0 : Nat) : Int) == 0) = true := rfl
  unfold famR at hF
  unfold countR at hC
  rw [Sp.vecOk_take] at hF hC
  cases hok : Sp.vecOk a x 0 6 with
  | false =>
    have hF' : F = [] ∧ e = 2 := by
      rcases hF with ⟨-, h⟩ | ⟨h, -⟩ | ⟨h, -⟩
      · simp only [AVal.tup.injEq, List.cons.injEq, AVal.sl.injEq, AVal.val.injEq, Value.int.injEq, true_and, and_true] at h
        exact ⟨mS_inj h.1, h.2⟩
      · rw [hok] at h; cases h
      · rw [hok] at h; cases h
    have hC' : n = 0 ∧ f = 2 := by
      rcases hC with ⟨-, h⟩ | ⟨h, -⟩ | ⟨h, -⟩
      · simpa using h
      · rw [hok] at h; cases h
      · rw [hok] at h; cases h
    obtain ⟨rfl, rfl⟩ := hF'
    obtain ⟨rfl, rfl⟩ := hC'
    simp only [z0, z2, ln, z0', go_sem, Nat.reduceEqDiff, Nat.reduceAdd, Nat.reduceLT, Nat.reduceLeDiff, reduceIte, reduceCtorEq]
    refine CallK.pure (e25 _) ?_
    simp only [go_sem, Nat.reduceEqDiff, Nat.reduceAdd, Nat.reduceLT, Nat.reduceLeDiff, reduceIte, reduceCtorEq]
    exact leaf (B true) rfl ⟨rfl, rfl⟩
  | true =>
    obtain ⟨k1, k2⟩ := vec_same hok
    rw [k1, k2] at hF
    rw [k1, k2] at hC
    obtain ⟨hm, xl, Xl, bX, pX, bx, Xp, px⟩ := vecOk_spec (by decide) hok
    have h34 := s34 C50_ok a ha hl hm
    have pl0 : (Sp.purL a).length < 9223372036854775808 := by
      have h1 : (Sp.purL a).length ≤ (Sp.basL a).length := List.length_filter_le _ _
      have h2 : (Sp.basL a).length ≤ 400 := Sp.ans_len hm (Sp.basB_is _ _)
      omega
    have e34 : ∀ H, CallV Try.prog (.fn (.func 34) [] []) [.sl false false (mS a)] H fun v H' => v = .sl false false (mS (Sp.purL a)) ∧ H' = H := fun H => liftV h34 (by simp [bndL, AVal.bnd, mS_bnd]) (by simp [AVal.bnd, mS_bnd]) H
    simp only [go_sem, Nat.reduceEqDiff, Nat.reduceAdd, Nat.reduceLT, Nat.reduceLeDiff, reduceIte, reduceCtorEq]
    refine CallK.pure (e34 _) ?_
    cases hpu : (Sp.basL a).any posV with
    | true =>
      have g1 : decide (((Sp.purL a).length : Int) > 0) = true := decide_eq_true (by have := purL_pos.2 hpu; omega)
      have hF' : F = [] ∧ e = 5 := by
        rcases hF with ⟨h, -⟩ | ⟨-, -, h⟩ | ⟨-, h, -⟩
        · rw [hok] at h; cases h
        · simp only [AVal.tup.injEq, List.cons.injEq, AVal.sl.injEq, AVal.val.injEq, Value.int.injEq, true_and, and_true] at h
          exact ⟨mS_inj h.1, h.2⟩
        · rw [hpu] at h; cases h
      have hC' : n = 0 ∧ f = 5 := by
        rcases hC with ⟨h, -⟩ | ⟨-, -, h⟩ | ⟨-, h, -⟩
        · rw [hok] at h; cases h
        · simpa using h
        · rw [hpu] at h; cases h
      obtain ⟨rfl, rfl⟩ := hF'
      obtain ⟨rfl, rfl⟩ := hC'
      simp only [g1, z0, z5, ln, z0', go_sem, Nat.reduceEqDiff, Nat.reduceAdd, Nat.reduceLT, Nat.reduceLeDiff, reduceIte, reduceCtorEq]
      refine CallK.pure (e25 _) ?_
      simp only [go_sem, Nat.reduceEqDiff, Nat.reduceAdd, Nat.reduceLT, Nat.reduceLeDiff, reduceIte, reduceCtorEq]
      exact leaf (B true) rfl ⟨rfl, rfl⟩
    | false =>
      have g1 : decide (((Sp.purL a).length : Int) > 0) = false := decide_eq_false (fun h => by have := (purL_pos (a := a)).1 (by omega); rw [hpu] at this; cases this)
      have hF' : FamL a x F ∧ e = 0 ∧ F.length ≤ 23372600161 := by
        rcases hF with ⟨h, -⟩ | ⟨-, h, -⟩ | ⟨-, -, F', h1, h2, -, h⟩
        · rw [hok] at h; cases h
        · rw [hpu] at h; cases h
        · simp only [AVal.tup.injEq, List.cons.injEq, AVal.sl.injEq, AVal.val.injEq, Value.int.injEq, true_and, and_true] at h
          obtain rfl := mS_inj h.1
          exact ⟨h1, h.2, h2⟩
      have hC' : ∃ F', FamL a x F' ∧ n = (F'.length : Int) ∧ f = 0 := by
        rcases hC with ⟨h, -⟩ | ⟨-, h, -⟩ | ⟨-, -, F', h1, -, h⟩
        · rw [hok] at h; cases h
        · rw [hpu] at h; cases h
        · exact ⟨F', h1, by simpa using h⟩
      obtain ⟨f1, rfl, f2⟩ := hF'
      obtain ⟨F', c1, rfl, rfl⟩ := hC'
      obtain rfl := f1.uniq c1
      simp only [g1, go_sem, Nat.reduceEqDiff, Nat.reduceAdd, Nat.reduceLT, Nat.reduceLeDiff, reduceIte, reduceCtorEq]
      refine CallK.by (CallV.of_spec (first := []) (cap := []) (s61 a x ha hl hm _ rfl xl bx px hpu)) fun v H' ⟨hH, R, r1, r2, r3, r4, hv⟩ => ?_
      subst hH hv
      obtain rfl := f1.uniq (F' := R) ⟨r1, r2⟩
      have n4 := (mat_rows hm).2.2.2
      have hFl : ∀ l ∈ F, l.length < 9223372036854775808 := fun l hl => by have := ((f1.2 l).1 hl).1; omega
      have e48 : ∀ H, CallV Try.prog (.fn (.func 48) [] []) [.sl false false (mS F), .sl false false (mS F)] H fun v H' => v = B true ∧ H' = H := fun H => by
        have := liftV (s48 false false false false F F hFl (by omega)) (by simp [bndL, AVal.bnd, mS_bnd]) rfl H
        rwa [beq_self_eq_true] at this
      have fl : ((F.length : Int) == ((mS F).length : Nat)) = true := by simp [mS]
      simp only [go_sem, Nat.reduceEqDiff, Nat.reduceAdd, Nat.reduceLT, Nat.reduceLeDiff, reduceIte, reduceCtorEq]
      refine CallK.pure (e48 _) ?_
      simp only [fl, z0, go_sem, Nat.reduceEqDiff, Nat.reduceAdd, Nat.reduceLT, Nat.reduceLeDiff, reduceIte, reduceCtorEq]
      refine CallK.pure (e25 _) ?_
      simp only [go_sem, Nat.reduceEqDiff, Nat.reduceAdd, Nat.reduceLT, Nat.reduceLeDiff, reduceIte, reduceCtorEq]
      exact leaf (B true) rfl ⟨rfl, rfl⟩
end Go.Proofs.Ytipfjfmdjmaflaa
namespace Go.Abs
open AVal
abbrev env0 (w : World) : Env := env (fun _ => none) (fun _ => False) [] w
theorem env0_X {w : World} {b : Nat} : ¬ (env0 w).X b := fun h => h.elim (fun h => h) nil_owned
theorem simH0 (w : World) : SimH (fun _ => none) (fun _ => False) [] w :=
  ⟨fun _ h => h.elim, fun i _ b _ _ hi => by simp at hi, fun i b r hi => by simp at hi, fun i b hi => by simp at hi⟩
/-- **The model's call**, from the contract where nothing is owned. -/
theorem Spec.calls {P : Program} {f : FuncId} {args : List AVal} {rv : Value} (h : Spec P f args [] fun v' H' => H' = [] ∧ v' = .val rv) {w : World} {rargs : Array Value} (hr : CRep (env0 w) args rargs) :
    Calls P f rargs w fun e w' => e = .returned rv ∧ RowKit.Below w.heap.size w w' := by
  refine callsIn_wide.1 ((h.2 _ _ w rargs (simH0 w) hr).mono fun e w' ⟨rv', he, v', H', φ', ⟨h1, h2⟩, h3, h4, h5⟩ => ?_)
  subst h1 h2
  obtain rfl : rv' = rv := h5.inv_val
  exact ⟨he, h4.os, h4.tape, h4.output, h4.size, fun k hk => h4.frame k hk nil_owned⟩
theorem spot_none {w : World} {a : Addr} {v : Value} (h : w.cell? a = some v) : a = ⟨a.block, a.off, none⟩ := by
  obtain ⟨b, off, spot⟩ := a
  unfold World.cell? at h
  split at h
  · split at h
    · cases h
    · rename_i hs; cases spot <;> simp_all
  · cases h
theorem add_at {b off i : Nat} : (⟨b, off, none⟩ : Addr).add i = ⟨b, off + i, none⟩ := by
  unfold Addr.add
  split
  · rename_i h; subst h; rfl
  · rfl
/-- A row of integers in memory. -/
theorem rep_row {w : World} {A : Option Addr} {L C : Nat} {Z : List Int} (h1 : L ≤ C) (hz : Z.length = C) (h0 : A = none → C = 0) (hc : ∀ a', A = some a' → ∀ c, c < C → w.cell? (a'.add c) = some (.int .i64 (Z.getD c 0))) :
    Rep (env0 w) (sI (Z.take L)) (.slice A L C) := by
  cases A with
  | none =>
    have := h0 rfl
    subst this
    obtain rfl : L = 0 := by omega
    exact .slnil _
  | some a =>
    have hc := hc a rfl
    by_cases hC : C = 0
    · subst hC
      obtain rfl : L = 0 := by omega
      exact .sl0 false a
    · have hs := spot_none (a := a) (by have := hc 0 (by omega); simpa [Addr.add] using this)
      generalize a.block = b at hs
      generalize a.off = off at hs
      subst hs
      have hlen : (mI (Z.take L)).length = L := by rw [mI_length, List.length_take]; omega
      refine Rep.mk_sl hlen.symm Nat.one_pos (fun _ => env0_X) (by omega) (fun h => by cases h) (fun i e he => ?_) (fun i e he j u hu => ?_)
      · obtain ⟨z, _, rfl⟩ := List.mem_map.1 (List.mem_of_getElem? he); rfl
      · have hi : i < L := by rw [← hlen]; exact (List.getElem?_eq_some_iff.1 he).1
        have e1 : e = I (Z.getD i 0) := by
          simp only [mI, List.getElem?_map, List.getElem?_take, if_pos hi, List.getElem?_eq_getElem (show i < Z.length by omega), Option.map_some, Option.some.injEq] at he
          rw [← he, List.getD_eq_getElem?_getD, List.getElem?_eq_getElem (show i < Z.length by omega)]; rfl
        subst e1
        cases j with
        | zero =>
          have hu : u = I (Z.getD i 0) := by simpa [AVal.cells] using hu.symm
          subst hu
          refine ⟨_, ?_, .val _⟩
          have := hc i (by omega)
          rw [add_at] at this
          show w.cell? _ = _
          simpa using this
        | succ j => simp [AVal.cells] at hu
/-- A slice of such rows. -/
theorem rep_rows {w : World} {a : Addr} {len cap : Nat} {A : Nat → Option Addr} {L C : Nat → Nat} {Z : Nat → List Int} (hl : len ≤ cap)
    (h : ∀ r, r < cap → w.cell? (a.add r) = some (.slice (A r) (L r) (C r)) ∧ L r ≤ C r ∧ (Z r).length = C r ∧ (A r = none → C r = 0) ∧ ∀ a', A r = some a' → ∀ c, c < C r → w.cell? (a'.add c) = some (.int .i64 ((Z r).getD c 0))) :
    Rep (env0 w) (.sl false false (mS ((List.range len).map fun r => (Z r).take (L r)))) (.slice (some a) len cap) := by
  by_cases hC : cap = 0
  · subst hC
    obtain rfl : len = 0 := by omega
    exact .sl0 false a
  · have hs := spot_none (a := a) (by have := (h 0 (by omega)).1; simpa [Addr.add] using this)
    generalize a.block = b at hs
    generalize a.off = off at hs
    subst hs
    have hlen : (mS ((List.range len).map fun r => (Z r).take (L r))).length = len := by rw [mS_length]; simp
    refine Rep.mk_sl hlen.symm Nat.one_pos (fun _ => env0_X) (by omega) (fun h => by cases h) (fun i e he => ?_) (fun i e he j u hu => ?_)
    · obtain ⟨z, _, rfl⟩ := List.mem_map.1 (List.mem_of_getElem? he); rfl
    · have hi : i < len := by rw [← hlen]; exact (List.getElem?_eq_some_iff.1 he).1
      have e1 : e = sI ((Z i).take (L i)) := by
        simp only [mS, List.map_map, List.getElem?_map, List.getElem?_range hi, Option.map_some, Option.some.injEq, Function.comp] at he
        exact he.symm
      subst e1
      cases j with
      | zero =>
        have hu : u = sI ((Z i).take (L i)) := by simpa [sI, AVal.cells] using hu.symm
        subst hu
        obtain ⟨g1, g2, g3, g4, g5⟩ := h i (by omega)
        rw [add_at] at g1
        exact ⟨_, (by show w.cell? _ = _; simpa using g1), rep_row g2 g3 g4 g5⟩
      | succ j => simp [sI, AVal.cells] at hu
end Go.Abs
