/- Contracts: prices; Contracts: the best vector that one move leads to. -/
import Derived.Test.YtipfjfmdjmaflaaKC
import Derived.Test.YtipfjfmdjmaflaaND
import Derived.Test.YtipfjfmdjmaflaaLB
import Derived.Test.YtipfjfmdjmaflaaNA
namespace Go.Proofs.Ytipfjfmdjmaflaa
open Go.Abs AVal
set_option linter.unusedSimpArgs false
attribute [local go_sem] W_skip W_keep KQ_canon canon Fr.norm W_seq W_block W_scope W_exit W_ret W_ops W_draw KQ_nil KQ_norm_seq KQ_exit_seq KQ_ret_seq KQ_norm_block KQ_ret_block KQ_exit_block KQ_exit_loop KQ_ret_loop O_nil O_cons S_call S_mv SE_mv SD_mv S_pick SE_pick SD_pick S_bin SE_bin SD_bin S_eqb SE_eqb SD_eqb S_eqv SE_eqv SD_eqv S_eqnil SE_eqnil SD_eqnil S_un SE_un SD_un S_conv SE_conv SD_conv S_mkfn SE_mkfn SD_mkfn S_load SE_load SD_load S_nilck SE_nilck SD_nilck S_slS SE_slS SD_slS S_slP SE_slP SD_slP S_fldA SE_fldA SD_fldA S_fld SE_fld SD_fld S_ixS SE_ixS SD_ixS S_ixP SE_ixP SD_ixP S_ixV SE_ixV SD_ixV S_ixStr SE_ixStr SD_ixStr S_ext SE_ext SD_ext S_len SE_len SD_len S_lenStr SE_lenStr SD_lenStr S_lenc SE_lenc SD_lenc S_mn SE_mn SD_mn S_mx SE_mx SD_mx S_build SE_build SD_build S_alloc SD_alloc S_box SD_box S_bslice SD_bslice S_mksl SD_mksl S_store SD_store S_append SD_append S_copy SD_copy S_clr SD_clr aq_some aa_some al_some aqd_some aad_some ald_some ape_some D_done D_both D_early D_step SE_call SD_call IOpd.ev Fr.get Fr.put Fr.putd entryFr pickA binA binI isSh shI eqbA eqvA ints ints_mI Option.map_some eqnilA unA convA loadA nilckA intA slSA slPA fldAA fldVA ixSA ixPA ixVA ixStrA extA lenA lenStrA mnA mxA AVal.fits fillA fillOk buildA opa srcA appA stoA copA clrA rdFree zeros List.length_nil List.length_cons List.length_map List.map_cons List.map_nil Option.map_some Option.map_none if_true if_false ite_true ite_false true_and and_true and_self implies_true forall_const true_implies Bool.false_eq_true Bool.not_true Bool.not_false decide_eq_true_eq decide_eq_false_iff_not eq_self List.getElem?_cons_zero List.getElem?_cons_succ List.getElem?_nil List.set_cons_zero List.set_cons_succ List.nil_append List.cons_append List.append_nil List.replicate_zero List.replicate_succ Nat.zero_add false_implies rng_lt rng_end rng_get cells_I cells_B cells_sl cut_one Int.toNat_natCast Int.natCast_nonneg List.headD_cons Int.lt_irrefl not_false_eq_true decide_false decide_true mI_length mI_cells mI_sz mI_isCell mI_mid mI_append mI_take mI_drop cells_val cells_own cells_agg isCell_I isCell_B isCell_nil isCell_sl isCell_own isCell_ptr isCell_fn isCell_rp isCell_yld cellsOk_I cellsOk_B cellsOk_nil cellsOk_sl cellsOk_own cellsOk_ptr cellsOk_fn cellsOk_rp cellsOk_yld cellsOk_agg cells_nil cells_ptr cells_fn cells_rp List.all_cons List.all_nil Bool.and_true Nat.mul_one Nat.zero_mul Nat.one_mul List.take_zero List.take_nil List.drop_nil List.drop_zero List.not_mem_nil Nat.le_refl Nat.zero_le mS_length mS_cells mS_sz mS_isCell mS_mid mS_append mS_take mS_drop cells_sI isCell_sI cellsOk_sI sI_eq succ_le_self' List.take_succ_cons List.drop_succ_cons List.take_length beq_self_eq_true List.mem_cons or_false forall_eq mI_put mI_rep O_guard' D_earlyG' D_stepG' W_cond' G_tt G_tf G_ft G_ff GE_tt GE_tf GE_ft GE_ff GS_tt GS_tf GS_ft GS_ff G_u GE_u GS_u IC_t IC_f xft xff xtt xtf z00 z20 z22 z02 zz tn0

theorem dp_comm : ∀ x y : List Int, Sp.dp x y = Sp.dp y x
  | [], [] => rfl
  | [], _ :: _ => rfl
  | _ :: _, [] => rfl
  | a :: x, b :: y => by simp only [Sp.dp]; rw [dp_comm x y, Int.mul_comm]
theorem mul_bnd {x p A B : Int} (hx : -A ≤ x ∧ x ≤ A) (hp : -B ≤ p ∧ p ≤ B) : -(A * B) ≤ x * p ∧ x * p ≤ A * B := by
  have h1 : (x * p).natAbs ≤ A.toNat * B.toNat := by
    rw [Int.natAbs_mul]; exact Nat.mul_le_mul (by omega) (by omega)
  have h2 : ((A.toNat * B.toNat : Nat) : Int) = A * B := by rw [Int.natCast_mul]; congr 1 <;> omega
  omega
/-- The sum of products. -/
theorem s37 (nn t nn' t' : Bool) (x p : List Int) (hl : x.length = p.length) (h4 : p.length ≤ 4) (bx : Sp.inB 100000 x) (bp : Sp.inB 9 p) : Abs.Spec Try.prog 37 [.sl nn t (mI x), .sl nn' t' (mI p)] [] fun v H' => H' = [] ∧ v = I (Sp.dp p x) := by
  refine Abs.Spec.walk mixed fn37 nn37 t37 q37 nt37 (by simp) ?_
  simp only [w37, go_sem, Nat.reduceEqDiff, Nat.reduceAdd, Nat.reduceLT, Nat.reduceLeDiff, reduceIte, reduceCtorEq]
  refine W_loop (fun q : { q : Nat × Int // q.1 ≤ x.length ∧ q.2 + Sp.dp (x.drop q.1) (p.drop q.1) = Sp.dp p x ∧ -(900000 * (q.1 : Int)) ≤ q.2 ∧ q.2 ≤ 900000 * q.1 } => ([(1, .sl nn' t' (mI p)), (5, I q.1.2), (8, .sl nn t (mI x)), (9, I x.length), (10, I q.1.1)], [])) (fun q => x.length - q.1.1) ⟨(0, 0), by omega, by simp [dp_comm], by simp, by simp⟩ [] (Wk.nil (by simp [fle, vle, Fr.get, mI_bnd])) ?_
  rintro ⟨⟨i, s⟩, hi, hs, s1, s2⟩
  dsimp only at hi hs s1 s2 ⊢
  by_cases hx : i < x.length
  · have d1 : (i : Int) < x.length := by omega
    have hp : i < p.length := by omega
    have d2 : (i : Int) < p.length := by omega
    have gx := mI_get hx
    have gp := mI_get hp
    have b1 := Sp.inB_getD bx i
    have b2 := Sp.inB_getD bp i
    have b3 := mul_bnd b1 b2
    have e1 : IntKind.i64.wrap (x.getD i 0 * p.getD i 0) = x.getD i 0 * p.getD i 0 := wrap64 (by omega) (by omega)
    have e2 : IntKind.i64.wrap (s + x.getD i 0 * p.getD i 0) = s + x.getD i 0 * p.getD i 0 := wrap64 (by omega) (by omega)
    have e3 : IntKind.i64.wrap ((i : Int) + 1) = (i : Int) + 1 := wrap64 (by omega) (by omega)
    simp only [w37L0, d1, decide_true, gx, gp, e1, e2, e3, go_sem, Nat.reduceEqDiff, Nat.reduceAdd, Nat.reduceLT, Nat.reduceLeDiff, reduceIte, reduceCtorEq]
    refine ⟨by omega, round0 rfl ⟨(i + 1, s + x.getD i 0 * p.getD i 0), by omega, ?_, by dsimp only; omega, by dsimp only; omega⟩ (by dsimp only; omega) rfl (by simp [fle, vle, Fr.get, mI_bnd])⟩
    dsimp only
    rw [← hs, List.drop_eq_getElem_cons hx, List.drop_eq_getElem_cons hp, List.getD_eq_getElem?_getD, List.getD_eq_getElem?_getD, List.getElem?_eq_getElem hx, List.getElem?_eq_getElem hp]
    simp only [Sp.dp, Option.getD_some]
    omega
  · have d1 : ¬ (i : Int) < x.length := by omega
    simp only [w37L0, w37T1, d1, decide_false, go_sem, Nat.reduceEqDiff, Nat.reduceAdd, Nat.reduceLT, Nat.reduceLeDiff, reduceIte, reduceCtorEq]
    rw [List.drop_of_length_le (by omega : x.length ≤ i)] at hs
    have hz : Sp.dp [] (p.drop i) = 0 := by simp [Sp.dp]
    rw [hz] at hs
    exact leaf (I _) rfl ⟨rfl, by rw [← hs, Int.add_zero]⟩
/-- Whether these are prices for n columns. -/
theorem s109 (nn t : Bool) (p : List Int) (n : Nat) (h1 : 1 ≤ n) (hl : p.length < 9223372036854775808) : Abs.Spec Try.prog 109 [.sl nn t (mI p), I n] [] fun v H' => H' = [] ∧ v = B (decide (p.length = n) && Sp.numbers p (-9) 9) := by
  refine Abs.Spec.walk mixed fn109 nn109 t109 q109 nt109 (by simp) ?_
  by_cases hlen : p.length = n
  · obtain ⟨x0, xs', rfl⟩ : ∃ x0 xs', p = x0 :: xs' := by
      cases p with
      | nil => simp at hlen; omega
      | cons a b => exact ⟨a, b, rfl⟩
    have hnum := Sp.numbers_iff (l := x0 :: xs') (by simp) (lo := -9) (hi := 9)
    have z1 : (((xs'.length + 1 : Nat) : Int) == (n : Int)) = true := by rw [beq_iff_eq]; simp at hlen; omega
    simp only [w109, z1, go_sem, Nat.reduceEqDiff, Nat.reduceAdd, Nat.reduceLT, Nat.reduceLeDiff, reduceIte, reduceCtorEq]
    refine CallK.pure (liftV (s72 nn t x0 xs' hl) (by simp [bndL, AVal.bnd, mI_bnd]) rfl _) ?_
    simp only [go_sem, Nat.reduceEqDiff, Nat.reduceAdd, Nat.reduceLT, Nat.reduceLeDiff, reduceIte, reduceCtorEq]
    by_cases g2 : Sp.minL (x0 :: xs') ≥ -9
    · have g2' : decide (Sp.minL (x0 :: xs') ≥ -9) = true := decide_eq_true g2
      simp only [g2', go_sem, Nat.reduceEqDiff, Nat.reduceAdd, Nat.reduceLT, Nat.reduceLeDiff, reduceIte, reduceCtorEq]
      refine CallK.pure (liftV (s101 nn t x0 xs' hl) (by simp [bndL, AVal.bnd, mI_bnd]) rfl _) ?_
      simp only [go_sem, Nat.reduceEqDiff, Nat.reduceAdd, Nat.reduceLT, Nat.reduceLeDiff, reduceIte, reduceCtorEq]
      refine leaf (B _) rfl ⟨rfl, ?_⟩
      rw [show decide (xs'.length + 1 = n) = true from decide_eq_true (by simpa using hlen), Bool.true_and]
      congr 1
      rw [Bool.eq_iff_iff, hnum, decide_eq_true_eq]
      omega
    · have g2' : decide (Sp.minL (x0 :: xs') ≥ -9) = false := decide_eq_false g2
      simp only [g2', go_sem, Nat.reduceEqDiff, Nat.reduceAdd, Nat.reduceLT, Nat.reduceLeDiff, reduceIte, reduceCtorEq]
      refine leaf (B _) rfl ⟨rfl, ?_⟩
      have : Sp.numbers (x0 :: xs') (-9) 9 = false := by
        cases hb : Sp.numbers (x0 :: xs') (-9) 9 with
        | false => rfl
        | true => have := hnum.1 hb; omega
      rw [this, Bool.and_false]
  · have z1 : ((p.length : Int) == (n : Int)) = false := by rw [beq_eq_false_iff_ne]; omega
    simp only [w109, z1, go_sem, Nat.reduceEqDiff, Nat.reduceAdd, Nat.reduceLT, Nat.reduceLeDiff, reduceIte, reduceCtorEq]
    exact leaf (B false) rfl ⟨rfl, by rw [decide_eq_false hlen]; rfl⟩


/-- The first blocks stay, the rest is let go. -/
theorem Wk.cut {LP : Nat → Fr → Prop} {H H1 : AHeap} {B : Nat} (h : HOk LP H) (hL : ∀ i fr, LP i fr → LPb B i fr) (hB : B ≤ H.length) {fr fr' : Fr} (hf : ∀ p ∈ fr', fr.get p.1 = p.2 ∧ vid H.length 3 p.2 = true) : Wk B [] (idρ H.length) fr (H ++ H1) fr' H :=
  ⟨idρ_len _, fun i hi => idρ_get (by omega), (imgs_id H 0).2, by
    have key : ∀ (L : AHeap) (i : Nat), (∀ (k : Nat) b, L[k]? = some b → H[i + k]? = some b) → hle B (H ++ H1) (idρ H.length) (imgs (idρ H.length) 0 H) i L := by
      intro L
      induction L with
      | nil => intro i _; trivial
      | cons b r ih =>
        intro i hk
        have h0 := hk 0 b rfl
        rw [Nat.add_zero] at h0
        have hi := (List.getElem?_eq_some_iff.1 h0).1
        have hb := h i b h0
        have h0' : (H ++ H1)[i]? = some b := by rw [List.getElem?_append_left hi]; exact h0
        refine ⟨?_, ih (i + 1) fun k c hc => by have := hk (k + 1) c (by simpa using hc); rw [show i + 1 + k = i + (k + 1) by omega]; exact this⟩
        cases b with
        | hole => exact hb
        | dead => trivial
        | defs => exact ⟨idρ_get hi, h0'⟩
        | loop st pend fr n ps aa bd =>
          have := hL _ _ hb
          exact ⟨this.1, h0', fr_bnd this.2⟩
        | cells cs =>
          simp only [idρ_get hi, h0']
          have hb : (bndL 0 cs || cs.all (vid H.length 2)) = true := hb
          rw [Bool.or_eq_true] at hb
          exact hb.imp (fun h => ⟨rfl, h⟩) fun h => vleL_same h
    exact key H 0 fun k b hk => by rw [Nat.zero_add]; exact hk, fle_id hf, fun m hm => by cases hm⟩
theorem roundC {x : Cx} {Q : QT} {ks : List Kont} {fr : Fr} {H H1 : AHeap} {LP : Nat → Fr → Prop} (h : HOk LP H) (hL : ∀ i fr, LP i fr → LPb x.B i fr) (hB : x.B ≤ H.length) {ι : Type} {St : ι → Fr × AHeap} {μ : ι → Nat} {i : ι} (j : ι) (h1 : μ j < μ i) (hH : H = (St j).2)
    (hf : ∀ p ∈ (St j).1, fr.get p.1 = p.2 ∧ vid H.length 3 p.2 = true) : KQ x Q .norm (.loop [] St μ i :: ks) fr (H ++ H1) [] := by
  subst hH
  exact KQ_round rfl j (idρ _) h1 (Wk.cut h hL hB hf)
theorem leafD {B : Nat} {e : Ex} {fr : Fr} {H H1 : AHeap} {R : AVal → AHeap → Prop} (hok : HOk (LPb B) H) (hB : B ≤ H.length) (hR : R (.tup []) H) (he : e = .norm ∨ e = .ret := by simp) : retA B [] R e fr (H ++ H1) [] := by
  refine ⟨he, ?_⟩
  simp only [killM, resL]
  exact ⟨trivial, idρ _, .tup [], H, Wk.cut hok (fun _ _ h => h) hB (fun p hp => by simp at hp; subst hp; exact ⟨rfl, rfl⟩), hR⟩
theorem dot_dp {p y : List Int} (hp : p.length = 4) (hy : y.length = 4) (bp : Sp.inB 9 p) (by' : Sp.inB 100000 y) : Sp.dot p y = Sp.dp p y := by
  unfold Sp.dot
  rw [Sp.dotG_dp (A := 9) (M := 100000) (by decide) (by decide) (by decide) bp by' (by omega) (by rw [hp]; simp) (by rw [hp]; simp), Int.zero_add]
/-- Whether one is better than the best so far. -/
def better (p y best : List Int) (f : Bool) : Bool := decide (Sp.dp p y < Sp.dp p best) || ((Sp.dp p y == Sp.dp p best) && (f && decide (Sp.cmpL y best < 0)))
set_option maxRecDepth 20000 in
set_option maxHeartbeats 4000000 in
theorem s110 (H : AHeap) (pI bI fI : Nat) (best p y : List Int) (f : Bool) (hp : p.length = 4) (hy : y.length = 4) (hl : best.length = 4) (bp : Sp.inB 9 p) (by' : Sp.inB 100000 y) (bb : Sp.inB 100000 best) (hpI : H[pI]? = some (.cells (mI p))) (hb : H[bI]? = some (.cells (mI best))) (hf : H[fI]? = some (.cells [B f])) (hne : bI ≠ fI) (hok : HOk (LPb H.length) H) :
    Abs.Spec Try.prog 110 [vec y, .ptr pI 0, .ptr bI 0, .ptr fI 0] H fun v H' => v = .tup [] ∧ H' = if better p y best f then (H.set bI (.cells (mI y))).set fI (.cells [B true]) else H := by
  refine Abs.Spec.walk mixed fn110 nn110 t110 q110 nt110 (by simp) ?_
  have lb : bI < H.length := (List.getElem?_eq_some_iff.1 hb).1
  have lf : fI < H.length := (List.getElem?_eq_some_iff.1 hf).1
  have hpl : (mI p).length = 4 := by rw [mI_length, hp]
  have hyl : (mI y).length = 4 := by rw [mI_length, hy]
  have hll : (mI best).length = 4 := by rw [mI_length, hl]
  have g3 : cut true 4 (mI y) = vec y := cut_vec hy
  have g4 : cut true 4 (mI p) = vec p := cut_vec hp
  have g5 : cut true 4 (mI best) = vec best := cut_vec hl
  have lp : pI < H.length := (List.getElem?_eq_some_iff.1 hpI).1
  have gp : ∀ L, (H ++ L)[pI]? = some (.cells (mI p)) := fun L => by rw [List.getElem?_append_left lp]; exact hpI
  have gb : ∀ L, (H ++ L)[bI]? = some (.cells (mI best)) := fun L => by rw [List.getElem?_append_left lb]; exact hb
  have gf : ∀ L, (H ++ L)[fI]? = some (.cells [B f]) := fun L => by rw [List.getElem?_append_left lf]; exact hf
  have gs : ∀ L b, (H ++ L).set bI b = H.set bI b ++ L := fun L b => List.set_append_left _ _ lb
  have gt : ∀ L b b', (H.set bI b ++ L).set fI b' = (H.set bI b).set fI b' ++ L := fun L b b' => List.set_append_left _ _ (by simpa using lf)
  have gu : ∀ L b, (H.set bI b ++ L)[fI]? = some (.cells [B f]) := fun L b => by rw [List.getElem?_append_left (by simpa using lf), List.getElem?_set_ne hne]; exact hf
  have ac := allI_cell y
  simp only [w110, vec_eq, gp, gb, gf, hpl, hyl, hll, g3, g4, g5, app_get, app_get0, app_set, app_set0, List.append_assoc, List.cons_append, List.nil_append, List.length_append, List.length_cons, List.length_nil, List.getElem?_cons_succ, List.getElem?_cons_zero, List.set_cons_succ, List.set_cons_zero, go_sem, Nat.reduceEqDiff, Nat.reduceAdd, Nat.reduceLT, Nat.reduceLeDiff, reduceIte, reduceCtorEq]
  have vb : ∀ x : List Int, bndL 0 [vec x] = true := fun x => by simp [bndL, AVal.bnd, vec, mI_bnd]
  have h82 : ∀ (z : List Int), z.length = 4 → Sp.inB 100000 z → ∀ H, CallV Try.prog (.fn (.func 82) [] []) [.agg (mI p), .agg (mI z)] H fun v H' => v = I (Sp.dp p z) ∧ H' = H := fun z hz bz H => by
    have := liftV (s82 p z hp hz) (by simp [bndL, AVal.bnd, vec, mI_bnd]) rfl H
    rw [dot_dp hp hz bp bz] at this
    exact this
  refine ⟨ac, by decide, CallKD.pure (fun H => h82 y hy by' H) ?_⟩
  simp only [vec_eq, gp, gb, gf, hpl, hyl, hll, g3, g4, g5, app_get, app_get0, app_set, app_set0, List.append_assoc, List.cons_append, List.nil_append, List.length_append, List.length_cons, List.length_nil, List.getElem?_cons_succ, List.getElem?_cons_zero, List.set_cons_succ, List.set_cons_zero, go_sem, Nat.reduceEqDiff, Nat.reduceAdd, Nat.reduceLT, Nat.reduceLeDiff, reduceIte, reduceCtorEq]
  refine CallKD.pure (fun H => h82 best hl bb H) ?_
  have bn : better p y best f = false → ∀ {fr : Fr} (L : AHeap), retA H.length r110 (fun v H' => v = .tup [] ∧ H' = if better p y best f = true then (H.set bI (.cells (mI y))).set fI (.cells [B true]) else H) .norm fr (H ++ L) [] := fun hc fr L =>
    leafD hok (Nat.le_refl _) ⟨rfl, by rw [hc]; rfl⟩
  have hok2 : HOk (LPb H.length) ((H.set bI (.cells (mI y))).set fI (.cells [B true])) := (hok.set (by simp [blkN, mI_bnd])).set (by simp [blkN, bndL, AVal.bnd])
  have by0 : better p y best f = true → ∀ {fr : Fr} (L : AHeap), retA H.length r110 (fun v H' => v = .tup [] ∧ H' = if better p y best f = true then (H.set bI (.cells (mI y))).set fI (.cells [B true]) else H) .norm fr ((H.set bI (.cells (mI y))).set fI (.cells [B true]) ++ L) [] := fun hc fr L =>
    leafD hok2 (by simp) ⟨rfl, by rw [hc]; rfl⟩
  have dd : y ++ List.drop 4 best = y := by rw [List.drop_of_length_le (by omega), List.append_nil]
  cases c1 : decide (Sp.dp p y < Sp.dp p best) with
  | true =>
    simp only [c1, vec_eq, gp, gb, gf, gs, gt, gu, dd, hpl, hyl, hll, g3, g4, g5, app_get, app_get0, app_set, app_set0, List.append_assoc, List.cons_append, List.nil_append, List.length_append, List.length_cons, List.length_nil, List.getElem?_cons_succ, List.getElem?_cons_zero, List.set_cons_succ, List.set_cons_zero, go_sem, Nat.reduceEqDiff, Nat.reduceAdd, Nat.reduceLT, Nat.reduceLeDiff, reduceIte, reduceCtorEq]
    exact ⟨ac, by0 (by unfold better; rw [c1]; rfl) _⟩
  | false =>
    cases c2 : (Sp.dp p y == Sp.dp p best) with
    | false =>
      simp only [c1, c2, vec_eq, gp, gb, gf, gs, gt, gu, hpl, hyl, hll, g3, g4, g5, app_get, app_get0, app_set, app_set0, List.append_assoc, List.cons_append, List.nil_append, List.length_append, List.length_cons, List.length_nil, List.getElem?_cons_succ, List.getElem?_cons_zero, List.set_cons_succ, List.set_cons_zero, go_sem, Nat.reduceEqDiff, Nat.reduceAdd, Nat.reduceLT, Nat.reduceLeDiff, reduceIte, reduceCtorEq]
      exact bn (by unfold better; rw [c1, c2]; rfl) _
    | true =>
      cases f with
      | false =>
        simp only [c1, c2, vec_eq, gp, gb, gf, gs, gt, gu, hpl, hyl, hll, g3, g4, g5, app_get, app_get0, app_set, app_set0, List.append_assoc, List.cons_append, List.nil_append, List.length_append, List.length_cons, List.length_nil, List.getElem?_cons_succ, List.getElem?_cons_zero, List.set_cons_succ, List.set_cons_zero, go_sem, Nat.reduceEqDiff, Nat.reduceAdd, Nat.reduceLT, Nat.reduceLeDiff, reduceIte, reduceCtorEq]
        exact bn (by unfold better; rw [c1, c2]; rfl) _
      | true =>
        simp only [c1, c2, vec_eq, gp, gb, gf, gs, gt, gu, hpl, hyl, hll, g3, g4, g5, app_get, app_get0, app_set, app_set0, List.append_assoc, List.cons_append, List.nil_append, List.length_append, List.length_cons, List.length_nil, List.getElem?_cons_succ, List.getElem?_cons_zero, List.set_cons_succ, List.set_cons_zero, go_sem, Nat.reduceEqDiff, Nat.reduceAdd, Nat.reduceLT, Nat.reduceLeDiff, reduceIte, reduceCtorEq]
        refine ⟨⟨by decide, by decide, .inl trivial⟩, ⟨by decide, by decide, .inl trivial⟩, ?_⟩
        refine CallKD.pure' (CallV.of_spec (first := []) (cap := []) (Spec.lend (args' := [.sl false false (mI y), .sl false false (mI best)]) (s41 false false false false y best (by omega) (by omega)) rfl ⟨vle_mI (cs := mI y) (by rw [app_get0]; rfl) (by simp) (by omega) (List.take_of_length_le (by omega)), vle_mI (cs := mI best) (gb _) (by simp) (by omega) (List.take_of_length_le (by omega)), trivial⟩)) ?_
        cases c3 : decide (Sp.cmpL y best < 0) with
        | false =>
          simp only [c3, vec_eq, gp, gb, gf, gs, gt, gu, hpl, hyl, hll, g3, g4, g5, app_get, app_get0, app_set, app_set0, List.append_assoc, List.cons_append, List.nil_append, List.length_append, List.length_cons, List.length_nil, List.getElem?_cons_succ, List.getElem?_cons_zero, List.set_cons_succ, List.set_cons_zero, go_sem, Nat.reduceEqDiff, Nat.reduceAdd, Nat.reduceLT, Nat.reduceLeDiff, reduceIte, reduceCtorEq]
          exact bn (by unfold better; rw [c1, c2, c3]; rfl) _
        | true =>
          simp only [c3, vec_eq, gp, gb, gf, gs, gt, gu, dd, hpl, hyl, hll, g3, g4, g5, app_get, app_get0, app_set, app_set0, List.append_assoc, List.cons_append, List.nil_append, List.length_append, List.length_cons, List.length_nil, List.getElem?_cons_succ, List.getElem?_cons_zero, List.set_cons_succ, List.set_cons_zero, go_sem, Nat.reduceEqDiff, Nat.reduceAdd, Nat.reduceLT, Nat.reduceLeDiff, reduceIte, reduceCtorEq]
          exact ⟨ac, by0 (by unfold better; rw [c1, c2, c3]; rfl) _⟩
/-- What one move leads to, without numbers below 0. -/
def nearL (X : List Int) (bs : List (List Int)) : List (List Int) := (bs.map (plusV 1 X)).filter posV
theorem nearL_snoc (X : List Int) (l : List (List Int)) (m : List Int) : nearL X (l ++ [m]) = nearL X l ++ (if posV (plusV 1 X m) then [plusV 1 X m] else []) := by
  unfold nearL; rw [List.map_append, List.filter_append]; simp [List.filter_cons]
/-- The heap where the best so far is kept. -/
def HB (H : AHeap) (bI fI : Nat) : Option (List Int) → AHeap
  | none => H
  | some z => (H.set bI (.cells (mI z))).set fI (.cells [B true])
def bestOf (X : List Int) : Option (List Int) → List Int
  | none => X
  | some z => z
theorem HB_len {H : AHeap} {bI fI : Nat} (r : Option (List Int)) : (HB H bI fI r).length = H.length := by cases r <;> simp [HB]
theorem HB_b {H : AHeap} {bI fI : Nat} {X : List Int} (hb : H[bI]? = some (.cells (mI X))) (hne : bI ≠ fI) (r : Option (List Int)) : (HB H bI fI r)[bI]? = some (.cells (mI (bestOf X r))) := by
  have lb : bI < H.length := (List.getElem?_eq_some_iff.1 hb).1
  cases r with
  | none => exact hb
  | some z => simp only [HB, bestOf]; rw [List.getElem?_set_ne (fun e => hne e.symm), List.getElem?_set_self lb]
theorem HB_f {H : AHeap} {bI fI : Nat} (hf : H[fI]? = some (.cells [B false])) (r : Option (List Int)) : (HB H bI fI r)[fI]? = some (.cells [B r.isSome]) := by
  have lf : fI < H.length := (List.getElem?_eq_some_iff.1 hf).1
  cases r with
  | none => exact hf
  | some z => simp only [HB]; rw [List.getElem?_set_self (by simpa using lf)]; rfl
theorem HB_p {H : AHeap} {bI fI pI : Nat} (h1 : pI ≠ bI) (h2 : pI ≠ fI) (r : Option (List Int)) : (HB H bI fI r)[pI]? = H[pI]? := by
  cases r with
  | none => rfl
  | some z => simp only [HB]; rw [List.getElem?_set_ne (fun e => h2 e.symm), List.getElem?_set_ne (fun e => h1 e.symm)]
theorem HB_ok {LP : Nat → Fr → Prop} {H : AHeap} {bI fI : Nat} (h : HOk LP H) (r : Option (List Int)) : HOk LP (HB H bI fI r) := by
  cases r with
  | none => exact h
  | some z => exact (h.set (by simp [blkN, mI_bnd])).set (by simp [blkN, bndL, AVal.bnd])
theorem HB_upd {H L : AHeap} {bI fI : Nat} {p X y : List Int} (lb : bI < H.length) (lf : fI < H.length) (hne : bI ≠ fI) (r : Option (List Int)) :
    (if better p y (bestOf X r) r.isSome = true then ((HB H bI fI r ++ L).set bI (.cells (mI y))).set fI (.cells [B true]) else HB H bI fI r ++ L) = HB H bI fI (Sp.upd (Sp.dp p) (Sp.dp p X) r y) ++ L := by
  have hs : ((HB H bI fI r ++ L).set bI (.cells (mI y))).set fI (.cells [B true]) = HB H bI fI (some y) ++ L := by
    rw [List.set_append_left _ _ (by rw [HB_len]; exact lb), List.set_append_left _ _ (by rw [List.length_set, HB_len]; exact lf)]
    congr 1
    cases r with
    | none => rfl
    | some z =>
      simp only [HB]
      rw [List.set_comm _ _ hne, List.set_set, List.set_comm _ _ (fun e => hne e.symm), List.set_set]
  rw [hs]
  cases r with
  | none =>
    have e : better p y (bestOf X none) (none : Option (List Int)).isSome = decide (Sp.dp p y < Sp.dp p X) := by
      simp only [better, bestOf, Option.isSome_none, Bool.false_and, Bool.and_false, Bool.or_false]
      rw [Bool.eq_iff_iff]
      exact ⟨fun h => decide_eq_true (of_decide_eq_true h), fun h => decide_eq_true (of_decide_eq_true h)⟩
    rw [e]
    by_cases h : Sp.dp p y < Sp.dp p X
    · rw [if_pos (decide_eq_true h)]; simp only [Sp.upd, if_pos h]
    · rw [if_neg (by simpa using h)]; simp only [Sp.upd, if_neg h]
  | some z =>
    have e : better p y (bestOf X (some z)) (some z).isSome = decide (Sp.dp p y < Sp.dp p z ∨ (Sp.dp p y = Sp.dp p z ∧ Sp.cmpL y z < 0)) := by
      rw [Bool.eq_iff_iff]
      simp only [better, bestOf, Option.isSome_some, Bool.true_and, Bool.or_eq_true, Bool.and_eq_true, beq_iff_eq]
      constructor
      · rintro (h | ⟨h, h'⟩)
        · exact decide_eq_true (.inl (of_decide_eq_true h))
        · exact decide_eq_true (.inr ⟨h, of_decide_eq_true h'⟩)
      · intro h
        rcases of_decide_eq_true h with h | ⟨h, h'⟩
        · exact .inl (decide_eq_true h)
        · exact .inr ⟨h, decide_eq_true h'⟩
    rw [e]
    by_cases h : Sp.dp p y < Sp.dp p z ∨ (Sp.dp p y = Sp.dp p z ∧ Sp.cmpL y z < 0)
    · rw [if_pos (decide_eq_true h)]; simp only [Sp.upd, if_pos h]
    · rw [if_neg (by rw [decide_eq_true_eq]; exact h)]; simp only [Sp.upd, if_neg h]
theorem bestOf_ok {P : List Int → Prop} {pr : List Int → Int} {d0 : Int} {X : List Int} {l : List (List Int)} (h0 : P X) (hl : ∀ y ∈ l, P y) : P (bestOf X (Sp.stepF pr d0 l)) := by
  cases h : Sp.stepF pr d0 l with
  | none => exact h0
  | some z => exact hl z ((Sp.stepF_is pr d0 l).yes z h).1
def taskV (rows : List (List Int)) (n : Int) (bs : List (List Int)) (X : List Int) : AVal := .agg (.sl false false (mV rows) :: I n :: .sl false false (mV bs) :: mI X)
theorem taskV_eq (rows : List (List Int)) (n : Int) (bs : List (List Int)) (X : List Int) : taskV rows n bs X = .agg (.sl false false (mV rows) :: I n :: .sl false false (mV bs) :: mI X) := rfl
set_option maxRecDepth 20000 in
set_option maxHeartbeats 4000000 in
theorem s105 (H : AHeap) (pI bI fI : Nat) (rows : List (List Int)) (n : Int) (bs : List (List Int)) (X X0 p : List Int) (hp : p.length = 4) (hX : X.length = 4) (hX0 : X0.length = 4) (h4 : ∀ m ∈ bs, m.length = 4) (hbl : bs.length ≤ 2000000) (bp : Sp.inB 9 p) (bX : Sp.inB 90000 X) (bb : ∀ m ∈ bs, Sp.inB 16 m)
    (hpI : H[pI]? = some (.cells (mI p))) (hb : H[bI]? = some (.cells (mI X))) (hf : H[fI]? = some (.cells [B false])) (hne : bI ≠ fI) (hpb : pI ≠ bI) (hpf : pI ≠ fI) (hok : HOk (LPb H.length) H) :
    Abs.Spec Try.prog 105 [taskV rows n bs X0, vec X, .fn (.func 110) [] [.ptr pI 0, .ptr bI 0, .ptr fI 0]] H fun v H' => v = .tup [] ∧ H' = HB H bI fI (Sp.stepF (Sp.dp p) (Sp.dp p X) (nearL X bs)) := by
  refine Abs.Spec.walk mixed fn105 nn105 t105 q105 nt105 (by simp) ?_
  have lb : bI < H.length := (List.getElem?_eq_some_iff.1 hb).1
  have lf : fI < H.length := (List.getElem?_eq_some_iff.1 hf).1
  have lp : pI < H.length := (List.getElem?_eq_some_iff.1 hpI).1
  have hXl : (mI X).length = 4 := by rw [mI_length, hX]
  have hX0l : (mI X0).length = 4 := by rw [mI_length, hX0]
  simp only [w105, taskV_eq, vec_eq, hXl, hX0l, mV_length, app_get, app_get0, app_set, app_set0, List.append_assoc, List.cons_append, List.nil_append, List.length_append, List.length_cons, List.length_nil, List.getElem?_cons_succ, List.getElem?_cons_zero, List.set_cons_succ, List.set_cons_zero, go_sem, Nat.reduceEqDiff, Nat.reduceAdd, Nat.reduceLT, Nat.reduceLeDiff, reduceIte, reduceCtorEq]
  obtain ⟨T, hT⟩ : ∃ T : AHeap, T = [Blk.cells (.sl false false (mV rows) :: I n :: .sl false false (mV bs) :: mI X0), Blk.cells (mI X)] := ⟨_, rfl⟩
  have hTl : T.length = 2 := by rw [hT]; rfl
  rw [← hT]
  have acX := allI_cell X
  have acX0 := allI_cell X0
  have hnl : ∀ y ∈ nearL X bs, y.length = 4 ∧ Sp.inB 100000 y := fun y hy => by
    obtain ⟨hy1, -⟩ := List.mem_filter.1 hy
    obtain ⟨m, hm, rfl⟩ := List.mem_map.1 hy1
    refine ⟨plusV_len hX (h4 m hm), fun z hz => ?_⟩
    obtain ⟨j, hj, rfl⟩ := List.getElem_of_mem hz
    have e := plusV_get (k := 1) hX (h4 m hm) j
    rw [List.getD_eq_getElem?_getD, List.getElem?_eq_getElem hj] at e
    simp only [Option.getD_some] at e
    have := Sp.inB_getD bX j
    have := Sp.inB_getD (bb m hm) j
    omega
  have hTok : ∀ (L : AHeap), (∀ LP, HOk LP (L)) → ∀ LP, HOk LP L := fun _ h => h
  have okT : ∀ {LP : Nat → Fr → Prop} {G : AHeap}, HOk LP G → HOk LP (G ++ T) := fun {LP G} h => by
    rw [hT, show [Blk.cells (.sl false false (mV rows) :: I n :: .sl false false (mV bs) :: mI X0), Blk.cells (mI X)] = [Blk.cells (.sl false false (mV rows) :: I n :: .sl false false (mV bs) :: mI X0)] ++ [Blk.cells (mI X)] from rfl, ← List.append_assoc]
    exact (h.push (by simp [blkN, bndL, AVal.bnd, mV_bnd, mI_bnd])).pushI X
  refine ⟨by simp [acX0], acX, ?_⟩
  refine W_loop (fun i : { i : Nat // i ≤ bs.length } => ([(2, .fn (.func 110) [] [.ptr pI 0, .ptr bI 0, .ptr fI 0]), (4, .ptr (H.length + 1) 0), (10, .sl false false (mV bs)), (11, I bs.length), (12, I i.1)], HB H bI fI (Sp.stepF (Sp.dp p) (Sp.dp p X) (nearL X (bs.take i.1))) ++ T)) (fun i => bs.length - i.1) ⟨0, Nat.zero_le _⟩ (idρ _) (Wk.ok (LP := LPb H.length) (okT hok) (fun _ _ h => h) (by simp) (by simp [Fr.get, vid, AVal.bnd, mV_bnd, hTl]; omega) fun _ h => by cases h) ?_
  rintro ⟨i, hi⟩
  dsimp only
  obtain ⟨r, hr⟩ : ∃ r, Sp.stepF (Sp.dp p) (Sp.dp p X) (nearL X (bs.take i)) = r := ⟨_, rfl⟩
  obtain ⟨G, hG⟩ : ∃ G, HB H bI fI r = G := ⟨_, rfl⟩
  have Gl : G.length = H.length := by rw [← hG]; exact HB_len r
  rw [hr, hG]
  by_cases hib : i < bs.length
  · have d1 : (i : Int) < bs.length := by omega
    obtain ⟨m, hm⟩ : ∃ m, bs.getD i [] = m := ⟨_, rfl⟩
    have mb : m ∈ bs := by rw [← hm]; exact gd_mem' hib
    have ml := h4 m mb
    have gm : (mV bs).getD i any = vec m := by rw [← hm]; simp [mV, List.getD_eq_getElem?_getD, hib]
    have hml : (mI m).length = 4 := by rw [mI_length, ml]
    have g3 : cut true 4 (mI m) = vec m := cut_vec ml
    have gX : cut true 4 (mI X) = vec X := cut_vec hX
    have acm := allI_cell m
    have gT1 : ∀ L, (G ++ (T ++ L))[H.length + 1]? = some (.cells (mI X)) := fun L => by rw [← Gl, app_get, hT]; rfl
    have gT0 : (G ++ T)[H.length + 1]? = some (.cells (mI X)) := by have := gT1 []; simpa using this
    have gL : ∀ (L : AHeap) k, (G ++ (T ++ L))[H.length + 2 + k]? = L[k]? := fun L k => by rw [← List.append_assoc, show H.length + 2 + k = (G ++ T).length + k by simp [Gl, hTl], app_get]
    have gL0 : ∀ (L : AHeap), (G ++ (T ++ L))[H.length + 2]? = L[0]? := fun L => gL L 0
    have sL : ∀ (L : AHeap) k b, (G ++ (T ++ L)).set (H.length + 2 + k) b = G ++ (T ++ L.set k b) := fun L k b => by rw [← List.append_assoc, show H.length + 2 + k = (G ++ T).length + k by simp [Gl, hTl], app_set, List.append_assoc]
    have sL0 : ∀ (L : AHeap) b, (G ++ (T ++ L)).set (H.length + 2) b = G ++ (T ++ L.set 0 b) := fun L b => sL L 0 b
    have gL1 : ∀ (L : AHeap), (G ++ (T ++ L))[H.length + 3]? = L[1]? := fun L => gL L 1
    have sL1 : ∀ (L : AHeap) b, (G ++ (T ++ L)).set (H.length + 3) b = G ++ (T ++ L.set 1 b) := fun L b => sL L 1 b
    simp only [w105L0, d1, gm, vec_eq, gT1, gT0, gL, gL0, gL1, sL, sL0, sL1, hml, hXl, Gl, hTl, g3, gX, List.append_assoc, List.cons_append, List.nil_append, List.length_append, List.length_cons, List.length_nil, List.getElem?_cons_succ, List.getElem?_cons_zero, List.set_cons_succ, List.set_cons_zero, go_sem, Nat.reduceEqDiff, Nat.reduceAdd, Nat.reduceLT, Nat.reduceLeDiff, reduceIte, reduceCtorEq]
    obtain ⟨y, hy⟩ : ∃ y, plusV 1 X m = y := ⟨_, rfl⟩
    have yl : y.length = 4 := by rw [← hy]; exact plusV_len hX ml
    have yb : Sp.inB 100000 y := by
      rw [← hy]
      refine fun z hz => ?_
      obtain ⟨j, hj, rfl⟩ := List.getElem_of_mem hz
      have e := plusV_get (k := 1) hX ml j
      rw [List.getD_eq_getElem?_getD, List.getElem?_eq_getElem hj] at e
      simp only [Option.getD_some] at e
      have := Sp.inB_getD bX j
      have := Sp.inB_getD (bb m mb) j
      omega
    have hyl : (mI y).length = 4 := by rw [mI_length, yl]
    have gy : cut true 4 (mI y) = vec y := cut_vec yl
    have acy := allI_cell y
    have h68 : ∀ H, CallV Try.prog (.fn (.func 68) [] []) [.agg (mI X), I 1, .agg (mI m)] H fun v H' => v = vec y ∧ H' = H := fun H => by
      rw [← hy]
      exact liftV (s68 X m 1 hX ml (.inl rfl) (Sp.inB_mono bX (by decide)) (Sp.inB_mono (bb m mb) (by decide))) (by simp [bndL, AVal.bnd, vec, mI_bnd]) (by simp [AVal.bnd, vec, mI_bnd]) H
    have btk : bs.take (i + 1) = bs.take i ++ [m] := by
      rw [List.take_add_one, List.getElem?_eq_getElem hib, ← hm, List.getD_eq_getElem?_getD, List.getElem?_eq_getElem hib]; rfl
    have ei : IntKind.i64.wrap ((i : Int) + 1) = ((i + 1 : Nat) : Int) := by rw [wrap64 (by omega) (by omega)]; omega
    have hsn : nearL X (bs.take (i + 1)) = nearL X (bs.take i) ++ (if posV y then [y] else []) := by rw [btk, nearL_snoc, hy]
    refine ⟨by rw [mV_length]; exact d1, acm, CallK.pure (h68 _) ?_⟩
    simp only [vec_eq, gT1, gT0, gL, gL0, gL1, sL, sL0, sL1, hml, hyl, hXl, Gl, hTl, g3, gX, gy, List.append_assoc, List.cons_append, List.nil_append, List.length_append, List.length_cons, List.length_nil, List.getElem?_cons_succ, List.getElem?_cons_zero, List.set_cons_succ, List.set_cons_zero, go_sem, Nat.reduceEqDiff, Nat.reduceAdd, Nat.reduceLT, Nat.reduceLeDiff, reduceIte, reduceCtorEq]
    refine ⟨acy, CallK.pure (liftV (s130 y yl) (by simp [bndL, AVal.bnd, vec, mI_bnd]) rfl _) ?_⟩
    cases hpos : posV y with
    | false =>
      rw [hpos, if_neg (by decide), List.append_nil] at hsn
      simp only [ei, go_sem, Nat.reduceEqDiff, Nat.reduceAdd, Nat.reduceLT, Nat.reduceLeDiff, reduceIte, reduceCtorEq]
      rw [← List.append_assoc]
      refine roundC (LP := LPb H.length) (okT (by rw [← hG]; exact HB_ok hok r)) (fun _ _ h => h) (by simp [Gl]) ⟨i + 1, hib⟩ (by dsimp only; omega) (by dsimp only; rw [hsn, hr, hG]) ?_
      simp [Fr.get, vid, AVal.bnd, mV_bnd, hTl, Gl]; omega
    | true =>
      rw [hpos, if_pos rfl] at hsn
      simp only [vec_eq, gT1, gT0, gL, gL0, gL1, sL, sL0, sL1, hml, hyl, hXl, Gl, hTl, g3, gX, gy, List.append_assoc, List.cons_append, List.nil_append, List.length_append, List.length_cons, List.length_nil, List.getElem?_cons_succ, List.getElem?_cons_zero, List.set_cons_succ, List.set_cons_zero, go_sem, Nat.reduceEqDiff, Nat.reduceAdd, Nat.reduceLT, Nat.reduceLeDiff, reduceIte, reduceCtorEq]
      have rb : (bestOf X r).length = 4 := by
        rw [← hr]
        refine bestOf_ok (P := fun z => z.length = 4) hX fun z hz => (hnl z ?_).1
        obtain ⟨hz1, hz2⟩ := List.mem_filter.1 hz
        obtain ⟨m', hm', rfl⟩ := List.mem_map.1 hz1
        exact List.mem_filter.2 ⟨List.mem_map.2 ⟨m', List.mem_of_mem_take hm', rfl⟩, hz2⟩
      have rb2 : Sp.inB 100000 (bestOf X r) := by
        rw [← hr]
        refine bestOf_ok (P := fun z => Sp.inB 100000 z) (Sp.inB_mono bX (by decide)) fun z hz => (hnl z ?_).2
        obtain ⟨hz1, hz2⟩ := List.mem_filter.1 hz
        obtain ⟨m', hm', rfl⟩ := List.mem_map.1 hz1
        exact List.mem_filter.2 ⟨List.mem_map.2 ⟨m', List.mem_of_mem_take hm', rfl⟩, hz2⟩
      have lo : ∀ {j : Nat} {b : Blk}, G[j]? = some b → ∀ L : AHeap, (G ++ L)[j]? = some b := fun {j b} hj L => by rw [List.getElem?_append_left (List.getElem?_eq_some_iff.1 hj).1]; exact hj
      have okG : HOk (LPb H.length) G := by rw [← hG]; exact HB_ok hok r
      have okW : HOk (LPb H.length) (G ++ (T ++ [Blk.cells (mI m), Blk.cells (mI y)])) := by
        have := ((okT okG).pushI m).pushI y
        simpa [List.append_assoc] using this
      refine CallK.by (CallV.of_spec (first := []) (cap := [.ptr pI 0, .ptr bI 0, .ptr fI 0]) (s110 (G ++ (T ++ [Blk.cells (mI m), Blk.cells (mI y)])) pI bI fI (bestOf X r) p y r.isSome hp yl rb bp yb rb2 (lo (by rw [← hG, HB_p hpb hpf]; exact hpI) _) (lo (by rw [← hG]; exact HB_b hb hne r) _) (lo (by rw [← hG]; exact HB_f hf r) _) hne (okW.mono fun _ _ h => h.mono (by simp; omega)))) fun v H' ⟨hv, hH⟩ => ?_
      rw [← hG, HB_upd lb lf hne r] at hH
      subst hv hH
      simp only [ei, go_sem, Nat.reduceEqDiff, Nat.reduceAdd, Nat.reduceLT, Nat.reduceLeDiff, reduceIte, reduceCtorEq]
      have hst : Sp.stepF (Sp.dp p) (Sp.dp p X) (nearL X (bs.take (i + 1))) = Sp.upd (Sp.dp p) (Sp.dp p X) r y := by rw [hsn, Sp.stepF_snoc, hr]
      rw [← hst, ← List.append_assoc]
      refine roundC (LP := LPb H.length) (okT (HB_ok hok _)) (fun _ _ h => h) (by simp [HB_len]) ⟨i + 1, hib⟩ (by dsimp only; omega) rfl ?_
      simp [Fr.get, vid, AVal.bnd, mV_bnd, hTl, HB_len]; omega
  · have d1 : ¬ (i : Int) < bs.length := by omega
    obtain rfl : i = bs.length := by omega
    rw [List.take_length] at hr
    simp only [w105L0, d1, go_sem, Nat.reduceEqDiff, Nat.reduceAdd, Nat.reduceLT, Nat.reduceLeDiff, reduceIte, reduceCtorEq]
    rw [hr]
    refine leafD (by rw [← hG]; exact HB_ok hok r) (by omega) ⟨rfl, hG.symm⟩
def stepV (X : List Int) (r : Option (List Int)) : AVal := .tup [vec (bestOf X r), B r.isSome]
set_option maxRecDepth 20000 in
set_option maxHeartbeats 4000000 in
theorem s81 (rows : List (List Int)) (n : Int) (bs : List (List Int)) (X p : List Int) (hp : p.length = 4) (hX : X.length = 4) (h4 : ∀ m ∈ bs, m.length = 4) (hbl : bs.length ≤ 2000000) (bp : Sp.inB 9 p) (bX : Sp.inB 90000 X) (bb : ∀ m ∈ bs, Sp.inB 16 m) :
    Abs.Spec Try.prog 81 [taskV rows n bs X, vec p] [] fun v H' => H' = [] ∧ v = stepV X (Sp.stepF (Sp.dp p) (Sp.dp p X) (nearL X bs)) := by
  refine Abs.Spec.walk mixed fn81 nn81 t81 q81 nt81 (by simp) ?_
  have hXl : (mI X).length = 4 := by rw [mI_length, hX]
  have hpl : (mI p).length = 4 := by rw [mI_length, hp]
  have gX : cut true 4 (mI X) = vec X := cut_vec hX
  have acX := allI_cell X
  have acp := allI_cell p
  have gT : cut true 7 (.sl false false (mV rows) :: I n :: .sl false false (mV bs) :: mI X) = taskV rows n bs X := by
    show AVal.agg (List.take 7 _) = _
    rw [List.take_of_length_le (by simp [hXl])]; rfl
  simp only [w81, taskV_eq, vec_eq, hXl, hpl, gX, gT, go_sem, Nat.reduceEqDiff, Nat.reduceAdd, Nat.reduceLT, Nat.reduceLeDiff, reduceIte, reduceCtorEq]
  refine ⟨by simp [acX], acp, acX, ?_⟩
  have hok : HOk (LPb 5) [Blk.cells (.sl false false (mV rows) :: I n :: .sl false false (mV bs) :: mI X), .cells (mI p), .cells [I 0, I 0, I 0, I 0], .cells (mI X), .cells [B false]] := fun j b hj => by
    rcases j with _ | _ | _ | _ | _ | j
    · cases hj; simp [blkN, bndL, AVal.bnd, mV_bnd, mI_bnd]
    · cases hj; simp [blkN, mI_bnd]
    · cases hj; simp [blkN, bndL, AVal.bnd]
    · cases hj; simp [blkN, mI_bnd]
    · cases hj; simp [blkN, bndL, AVal.bnd]
    · simp at hj
  refine CallK.by (CallV.of_spec (first := []) (cap := []) (s105 _ 1 3 4 rows n bs X X p hp hX hX h4 hbl bp bX bb rfl rfl rfl (by decide) (by decide) (by decide) hok)) fun v H' ⟨hv, hH⟩ => ?_
  subst hv hH
  obtain ⟨r, hr⟩ : ∃ r, Sp.stepF (Sp.dp p) (Sp.dp p X) (nearL X bs) = r := ⟨_, rfl⟩
  have rb : (bestOf X r).length = 4 := by
    rw [← hr]
    refine bestOf_ok (P := fun z => z.length = 4) hX fun z hz => ?_
    obtain ⟨hz1, hz2⟩ := List.mem_filter.1 hz
    obtain ⟨m', hm', rfl⟩ := List.mem_map.1 hz1
    exact plusV_len hX (h4 m' hm')
  have rl : (mI (bestOf X r)).length = 4 := by rw [mI_length, rb]
  have gr : cut true 4 (mI (bestOf X r)) = vec (bestOf X r) := cut_vec rb
  have acr := allI_cell (bestOf X r)
  rw [hr]
  cases r with
  | none =>
    simp only [HB, bestOf] at rl gr acr ⊢
    simp only [hXl, gX, go_sem, Nat.reduceEqDiff, Nat.reduceAdd, Nat.reduceLT, Nat.reduceLeDiff, reduceIte, reduceCtorEq]
    have hcc : (vec X).cells = mI X := rfl
    rw [hcc]
    exact ⟨⟨acX, hXl⟩, leafCT (cut true 4 (mI X)) (stepV X none) rfl ⟨by rw [hXl]; omega, fun h => by cases h⟩ ⟨by rw [gX]; exact vle_vec _, rfl, trivial⟩ ⟨rfl, rfl⟩⟩
  | some z =>
    simp only [HB, bestOf] at rl gr acr ⊢
    simp only [rl, gr, List.set_cons_succ, List.set_cons_zero, go_sem, Nat.reduceEqDiff, Nat.reduceAdd, Nat.reduceLT, Nat.reduceLeDiff, reduceIte, reduceCtorEq]
    have hcc : (vec z).cells = mI z := rfl
    rw [hcc]
    exact ⟨⟨acr, rl⟩, leafCT (cut true 4 (mI z)) (stepV X (some z)) rfl ⟨by rw [rl]; omega, fun h => by cases h⟩ ⟨by rw [gr]; exact vle_vec _, rfl, trivial⟩ ⟨rfl, rfl⟩⟩
def zT : AVal := .agg [nilSl, I 0, nilSl, I 0, I 0, I 0, I 0]
/-- The answer of open. -/
def openR (a : List (List Int)) (x : List Int) (most : Int) (v : AVal) : Prop :=
  (Sp.vecOk a x 0 most = false ∧ v = .tup [zT, I 2]) ∨
  (Sp.vecOk a x 0 most = true ∧ ∃ bs, IsB (a.map Sp.pad) (a.getD 0 []).length bs ∧ v = .tup [taskV (a.map Sp.pad) (a.getD 0 []).length bs (Sp.pad x), I (if bs.any posV then 5 else 0)])
set_option maxRecDepth 20000 in
set_option maxHeartbeats 4000000 in
theorem s98 (a : List (List Int)) (x : List Int) (most : Int) (ha : ∀ l ∈ a, l.length < 9223372036854775808) (hl : a.length < 9223372036854775808) (hx : x.length < 9223372036854775808) :
    Abs.Spec Try.prog 98 [.sl false false (mS a), .sl false false (mI x), I most] [] fun v H' => H' = [] ∧ openR a x most v := by
  refine Abs.Spec.walk mixed fn98 nn98 t98 q98 nt98 (by simp) ?_
  simp only [w98, go_sem, Nat.reduceEqDiff, Nat.reduceAdd, Nat.reduceLT, Nat.reduceLeDiff, reduceIte, reduceCtorEq]
  refine CallK.by (CallV.of_spec (first := []) (cap := []) (Spec.liftE (s62 false false a ha hl) (by simp [bndL, AVal.bnd, mS_bnd]) (fun v hr => ?_) _)) fun v H' ⟨hr, hH⟩ => ?_
  · rcases hr with ⟨-, rfl⟩ | ⟨-, vs, n, rfl⟩ <;> simp [AVal.bnd, bndL, matV, mV_bnd]
  subst hH
  rcases hr with ⟨hm, hv⟩ | ⟨hm, vs, n, hv⟩
  rotate_left
  · subst hv
    simp only [matV_eq, List.getD_cons_zero, List.getD_cons_succ, go_sem, Nat.reduceEqDiff, Nat.reduceAdd, Nat.reduceLT, Nat.reduceLeDiff, reduceIte, reduceCtorEq]
    exact leafCT (cut true 7 [nilSl, I 0, nilSl, I 0, I 0, I 0, I 0]) (.tup [zT, I 2]) rfl ⟨by decide, fun h => by cases h⟩ ⟨.inl ⟨rfl, rfl⟩, rfl, trivial⟩ ⟨rfl, .inl ⟨by unfold Sp.vecOk; rw [hm]; rfl, rfl⟩⟩
  · subst hv
    obtain ⟨r1, r2, n1, n4⟩ := mat_rows hm
    obtain ⟨n, hn⟩ : ∃ n, (a.getD 0 []).length = n := ⟨_, rfl⟩
    have hmc : cut true 2 [sl false false (mV (a.map Sp.pad)), I (n : Int)] = matV (a.map Sp.pad) n := rfl
    have h63 := s63 false false (.sl false false (mV (a.map Sp.pad))) rfl n x 0 most (by omega) (by omega) hx
    have hvo : Sp.vecOk a x 0 most = (decide (x.length = n) && Sp.numbers x 0 most) := by unfold Sp.vecOk; rw [hm, hn, Bool.true_and]
    rw [hn] at n1 n4 ⊢
    simp only [matV_eq, List.getD_cons_zero, List.getD_cons_succ, hmc, go_sem, Nat.reduceEqDiff, Nat.reduceAdd, Nat.reduceLT, Nat.reduceLeDiff, reduceIte, reduceCtorEq]
    cases hb : (decide (x.length = n) && Sp.numbers x 0 most) with
    | false =>
      rw [hb, if_neg (by decide)] at h63
      refine CallK.pure (liftV h63 (by simp [bndL, AVal.bnd, mV_bnd, mI_bnd]) (by simp [AVal.bnd, bndL, vec, mI_bnd]) _) ?_
      simp only [vec_eq, List.getD_cons_zero, List.getD_cons_succ, go_sem, Nat.reduceEqDiff, Nat.reduceAdd, Nat.reduceLT, Nat.reduceLeDiff, reduceIte, reduceCtorEq]
      exact ⟨rfl, leafCT (cut true 7 [nilSl, I 0, nilSl, I 0, I 0, I 0, I 0]) (.tup [zT, I 2]) rfl ⟨by decide, fun h => by cases h⟩ ⟨.inl ⟨rfl, rfl⟩, rfl, trivial⟩ ⟨rfl, .inl ⟨by rw [hvo]; exact hb, rfl⟩⟩⟩
    | true =>
      rw [hb, if_pos rfl] at h63
      have xl : x.length = n := by rw [Bool.and_eq_true, decide_eq_true_eq] at hb; exact hb.1
      have Xl : (Sp.pad x).length = 4 := Sp.pad_len (by omega)
      obtain ⟨X, hX⟩ : ∃ X, Sp.pad x = X := ⟨_, rfl⟩
      rw [hX] at h63 Xl
      have Xm : (mI X).length = 4 := by rw [mI_length, Xl]
      have Xc : cut true 4 (mI X) = vec X := cut_vec Xl
      have acX := allI_cell X
      have h85 : ∀ H, CallV Try.prog (.fn (.func 85) [] []) [matV (a.map Sp.pad) n] H fun v H' => (∃ bs, IsB (a.map Sp.pad) n bs ∧ v = .sl false false (mV bs)) ∧ H' = H := fun H =>
        CallV.of_spec (first := []) (cap := []) (Spec.liftE (s85f (a.map Sp.pad) n (by omega) r2 r1) (by simp [bndL, matV, AVal.bnd, mV_bnd]) (fun v ⟨bs, _, h⟩ => by subst h; simp [AVal.bnd, mV_bnd]) H)
      refine CallK.pure (liftV h63 (by simp [bndL, AVal.bnd, mV_bnd, mI_bnd]) (by simp [AVal.bnd, bndL, vec, mI_bnd]) _) ?_
      simp only [vec_eq, List.getD_cons_zero, List.getD_cons_succ, Xm, Xc, hmc, go_sem, Nat.reduceEqDiff, Nat.reduceAdd, Nat.reduceLT, Nat.reduceLeDiff, reduceIte, reduceCtorEq]
      refine ⟨acX, CallKD.grow (h85 _) fun v H' ⟨⟨bs, hB, hv⟩, hH⟩ => ?_, CallKD.grow (h85 _) fun v H' ⟨⟨bs, hB, hv⟩, hH⟩ => ?_⟩
      all_goals
        subst hv hH
        refine ⟨.refl _, ?_⟩
        simp only [matV_eq, vec_eq, List.getD_cons_zero, List.getD_cons_succ, Xm, Xc, hmc, List.set_cons_succ, List.set_cons_zero, go_sem, Nat.reduceEqDiff, Nat.reduceAdd, Nat.reduceLT, Nat.reduceLeDiff, reduceIte, reduceCtorEq]
        have gT : cut true 7 (.sl false false (mV (a.map Sp.pad)) :: I n :: .sl false false (mV bs) :: mI X) = taskV (a.map Sp.pad) n bs X := by
          show AVal.agg (List.take 7 _) = _
          rw [List.take_of_length_le (by simp [Xm])]; rfl
        have hB4 : ∀ y ∈ bs, y.length = 4 := fun y hy => (hB.ok y hy).1
        have hBl := hB.len (by omega)
        have hk := s103 false false bs hB4 (.fn (.func 130) [] []) posV (fun y hy => (CallV.of_spec (first := []) (cap := []) (s130 y (hB4 y hy))).mono fun v H' ⟨a, b⟩ => ⟨b, a⟩) (fun H => by simp [vle, vle.vleL]) (by omega)
        refine ⟨by simp [acX], CallK.pure (liftV hk (by simp [bndL, AVal.bnd, mV_bnd]) rfl _) ?_⟩
        have tc : (taskV (a.map Sp.pad) n bs X).cells = .sl false false (mV (a.map Sp.pad)) :: I n :: .sl false false (mV bs) :: mI X := rfl
        have hres : (mI X).length + 1 + 1 + 1 = 7 := by omega
        have e1 : ∀ e, (∀ v, v = (AVal.tup [taskV (a.map Sp.pad) n bs X, I e]) → e = (if bs.any posV then 5 else 0) → openR a x most v) := fun e v hv he => .inr ⟨by rw [hvo]; exact hb, bs, by rw [hn]; exact hB, by rw [hn, hX, ← he]; exact hv⟩
        have tb : bndL 0 (AVal.sl false false (mV (a.map Sp.pad)) :: I n :: .sl false false (mV bs) :: mI X) = true := by simp [bndL, AVal.bnd, mV_bnd, mI_bnd]
        cases hp : bs.any posV with
        | true =>
          simp only [gT, Xm, tc, go_sem, Nat.reduceEqDiff, Nat.reduceAdd, Nat.reduceLT, Nat.reduceLeDiff, reduceIte, reduceCtorEq]
          exact ⟨by show (true && (true && (true && (mI X).all AVal.isCell))) = true; rw [acX]; rfl, leafCT (cut true 7 (.sl false false (mV (a.map Sp.pad)) :: I n :: .sl false false (mV bs) :: mI X)) (.tup [taskV (a.map Sp.pad) n bs X, I 5]) rfl ⟨by simp [Xm], fun h => by cases h⟩ ⟨by rw [gT]; exact .inl ⟨rfl, tb⟩, rfl, trivial⟩ ⟨rfl, e1 5 _ rfl (by rw [hp]; rfl)⟩⟩
        | false =>
          simp only [gT, Xm, tc, go_sem, Nat.reduceEqDiff, Nat.reduceAdd, Nat.reduceLT, Nat.reduceLeDiff, reduceIte, reduceCtorEq]
          exact ⟨by show (true && (true && (true && (mI X).all AVal.isCell))) = true; rw [acX]; rfl, leafCT (cut true 7 (.sl false false (mV (a.map Sp.pad)) :: I n :: .sl false false (mV bs) :: mI X)) (.tup [taskV (a.map Sp.pad) n bs X, I 0]) rfl ⟨by simp [Xm], fun h => by cases h⟩ ⟨by rw [gT]; exact .inl ⟨rfl, tb⟩, rfl, trivial⟩ ⟨rfl, e1 0 _ rfl (by rw [hp]; rfl)⟩⟩
end Go.Proofs.Ytipfjfmdjmaflaa
