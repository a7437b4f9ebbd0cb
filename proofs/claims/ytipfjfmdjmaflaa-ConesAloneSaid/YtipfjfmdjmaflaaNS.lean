/- Contracts: families, and how many there are. -/
import Derived.Test.YtipfjfmdjmaflaaNR
namespace Go.Proofs.Ytipfjfmdjmaflaa
open Go.Abs AVal
set_option linter.unusedSimpArgs false
attribute [local go_sem] W_skip W_keep KQ_canon canon Fr.norm W_seq W_block W_scope W_exit W_ret W_ops W_draw KQ_nil KQ_norm_seq KQ_exit_seq KQ_ret_seq KQ_norm_block KQ_ret_block KQ_exit_block KQ_exit_loop KQ_ret_loop O_nil O_cons S_call S_mv SE_mv SD_mv S_pick SE_pick SD_pick S_bin SE_bin SD_bin S_eqb SE_eqb SD_eqb S_eqv SE_eqv SD_eqv S_eqnil SE_eqnil SD_eqnil S_un SE_un SD_un S_conv SE_conv SD_conv S_mkfn SE_mkfn SD_mkfn S_load SE_load SD_load S_nilck SE_nilck SD_nilck S_slS SE_slS SD_slS S_slP SE_slP SD_slP S_fldA SE_fldA SD_fldA S_fld SE_fld SD_fld S_ixS SE_ixS SD_ixS S_ixP SE_ixP SD_ixP S_ixV SE_ixV SD_ixV S_ixStr SE_ixStr SD_ixStr S_ext SE_ext SD_ext S_len SE_len SD_len S_lenStr SE_lenStr SD_lenStr S_lenc SE_lenc SD_lenc S_mn SE_mn SD_mn S_mx SE_mx SD_mx S_build SE_build SD_build S_alloc SD_alloc S_box SD_box S_bslice SD_bslice S_mksl SD_mksl S_store SD_store S_append SD_append S_copy SD_copy S_clr SD_clr S_mlen SE_mlen SD_mlen S_mget SE_mget SD_mget S_mval SE_mval SD_mval S_mentry SE_mentry SD_mentry S_mkmap SD_mkmap S_mset SD_mset S_mrange SD_mrange S_mnext mlenA mgetA mvalA mentryA msetA mrangeA cells_mp isCell_mp cellsOk_mp aq_some aa_some al_some alA_some aqd_some aad_some ald_some ape_some D_done D_both D_early D_step SE_call SD_call IOpd.ev Fr.get Fr.put Fr.putd entryFr pickA binA binI isSh shI eqbA eqvA ints ints_mI Option.map_some eqnilA unA convA loadA nilckA intA slSA slPA fldAA fldVA ixSA ixPA ixVA ixStrA extA lenA lenStrA mnA mxA AVal.fits fillA fillOk buildA opa srcA appA stoA copA clrA rdFree zeros List.length_nil List.length_cons List.length_map List.map_cons List.map_nil Option.map_some Option.map_none if_true if_false ite_true ite_false true_and and_true and_self implies_true forall_const true_implies Bool.false_eq_true Bool.not_true Bool.not_false decide_eq_true_eq decide_eq_false_iff_not eq_self List.getElem?_cons_zero List.getElem?_cons_succ List.getElem?_nil List.set_cons_zero List.set_cons_succ List.nil_append List.cons_append List.append_nil List.replicate_zero List.replicate_succ Nat.zero_add false_implies rng_lt rng_end rng_get cells_I cells_B cells_sl cut_one Int.toNat_natCast Int.natCast_nonneg List.headD_cons Int.lt_irrefl not_false_eq_true decide_false decide_true mI_length mI_cells mI_sz mI_isCell mI_mid mI_append mI_take mI_drop cells_val cells_own cells_agg isCell_I isCell_B isCell_nil isCell_sl isCell_own isCell_ptr isCell_fn isCell_rp isCell_yld cellsOk_I cellsOk_B cellsOk_nil cellsOk_sl cellsOk_own cellsOk_ptr cellsOk_fn cellsOk_rp cellsOk_yld cellsOk_agg cells_nil cells_ptr cells_fn cells_rp List.all_cons List.all_nil Bool.and_true Nat.mul_one Nat.zero_mul Nat.one_mul List.take_zero List.take_nil List.drop_nil List.drop_zero List.not_mem_nil Nat.le_refl Nat.zero_le mS_length mS_cells mS_sz mS_isCell mS_mid mS_append mS_take mS_drop cells_sI isCell_sI cellsOk_sI sI_eq succ_le_self' List.take_succ_cons List.drop_succ_cons List.take_length beq_self_eq_true List.mem_cons or_false forall_eq mI_put mI_rep O_guard' D_earlyG' D_stepG' W_cond' G_tt G_tf G_ft G_ff GE_tt GE_tf GE_ft GE_ff GS_tt GS_tf GS_ft GS_ff G_u GE_u GS_u IC_t IC_f xft xff xtt xtf z00 z20 z22 z02 zz tn0
theorem s99 (y : List Int) : Abs.Spec Try.prog 99 [.agg (mI y)] [] fun v H' => H' = [] ∧ v = B false := by
  refine Abs.Spec.walk mixed fn99 nn99 t99 q99 nt99 (by simp) ?_
  have acy := allI_cell y
  simp only [w99, go_sem, Nat.reduceEqDiff, Nat.reduceAdd, Nat.reduceLT, Nat.reduceLeDiff, reduceIte, reduceCtorEq]
  exact ⟨acy, leaf (B false) rfl ⟨rfl, rfl⟩⟩
/-! ### Plain: what the search finds. -/
theorem hasK_iff {es : List Ent} {y : List Int} : hasK es y = true ↔ y ∈ es.map (·.1) := by
  unfold hasK; rw [List.any_eq_true, List.mem_map]
  exact ⟨fun ⟨e, he, h⟩ => ⟨e, he, by simpa using h⟩, fun ⟨e, he, h⟩ => ⟨e, he, by simpa using h⟩⟩
theorem hasK_app {es t : List Ent} {y : List Int} (h : hasK es y = true) : hasK (es ++ t) y = true := by
  rw [hasK_iff] at h ⊢; rw [List.map_append]; exact List.mem_append_left _ h
theorem addE_has (Y : List Int) (d : Nat) (es : List Ent) (y : List Int) : hasK (addE Y d es y) y = true := by
  unfold addE
  split
  · assumption
  · rw [hasK_iff]; simp
theorem foldE_has {Y : List Int} {d : Nat} : ∀ {l : List (List Int)} {es : List Ent} {y : List Int}, y ∈ l → hasK (l.foldl (addE Y d) es) y = true
  | z :: l, es, y, h => by
    rw [List.foldl_cons]
    rcases List.mem_cons.1 h with rfl | h
    · obtain ⟨t, ht⟩ := foldE_pre Y d l (addE Y d es y)
      rw [ht]; exact hasK_app (addE_has Y d es y)
    · exact foldE_has h
theorem foldE_nd {Y : List Int} {d : Nat} : ∀ {l : List (List Int)} {es : List Ent}, (es.map (·.1)).Nodup → ((l.foldl (addE Y d) es).map (·.1)).Nodup
  | [], _, h => h
  | y :: l, es, h => by
    rw [List.foldl_cons]
    refine foldE_nd ?_
    unfold addE
    split
    · exact h
    · rename_i hn
      have hn : y ∉ es.map (·.1) := fun hm => hn (hasK_iff.2 hm)
      rw [List.map_append]
      refine List.nodup_append.2 ⟨h, by simp, fun a ha b hb => ?_⟩
      simp at hb; subst hb
      exact fun e => hn (e ▸ ha)
/-- What is new came from here. -/
theorem foldE_new {Y : List Int} {d : Nat} : ∀ {l : List (List Int)} {es : List Ent} {e : Ent}, e ∈ l.foldl (addE Y d) es → e ∈ es ∨ e.1 ∈ l ∧ e.2 = (Y, d + 1)
  | [], _, _, h => .inl h
  | y :: l, es, e, h => by
    rw [List.foldl_cons] at h
    rcases foldE_new h with h | ⟨h1, h2⟩
    · unfold addE at h
      split at h
      · exact .inl h
      · rcases List.mem_append.1 h with h | h
        · exact .inl h
        · simp at h; subst h; exact .inr ⟨by simp, rfl⟩
    · exact .inr ⟨by simp [h1], h2⟩
section
variable {bs : List (List Int)} {X : List Int} {st : List Int → Bool} {es : List Ent} {i : Nat}
theorem Sr.nd (h : Sr bs X st es i) : (es.map (·.1)).Nodup := by
  induction h with
  | start => simp
  | step h hi hs ih => exact foldE_nd ih
theorem Sr.first (h : Sr bs X st es i) : es[0]? = some (X, X, 0) := by
  induction h with
  | start => rfl
  | step h hi hs ih =>
    obtain ⟨t, ht⟩ := foldE_pre _ _ (nearL _ bs) _
    rw [ht, List.getElem?_append_left (List.getElem?_eq_some_iff.1 ih).1]; exact ih
/-- Whoever has been asked has all neighbours there. -/
theorem Sr.closed (h : Sr bs X st es i) : ∀ j, j < i → ∀ Y f d, es[j]? = some (Y, f, d) → ∀ y ∈ nearL Y bs, hasK es y = true := by
  induction h with
  | start => intro j hj; omega
  | @step es i Y0 f0 d0 h hi hs ih =>
    intro j hj Y f d hY y hy
    obtain ⟨t, ht⟩ := foldE_pre Y0 d0 (nearL Y0 bs) es
    have hil := (List.getElem?_eq_some_iff.1 hi).1
    by_cases hji : j < i
    · rw [ht, List.getElem?_append_left (by omega)] at hY
      rw [ht]; exact hasK_app (ih j hji Y f d hY y hy)
    · obtain rfl : j = i := by omega
      rw [ht, List.getElem?_append_left (by omega), hi] at hY
      cases hY
      exact foldE_has hy
theorem Sr.ind {P : List Int → Prop} (h : Sr bs X st es i) (h0 : P X) (hs : ∀ Y y, P Y → y ∈ nearL Y bs → P y) : ∀ e ∈ es, P e.1 := by
  induction h with
  | start => intro e he; simp at he; subst he; exact h0
  | step h hi _ ih =>
    intro e he
    rcases foldE_new he with he | ⟨he, -⟩
    · exact ih e he
    · exact hs _ _ (ih _ (List.mem_of_getElem? hi)) he
end
theorem mem_near {Y y : List Int} {bs : List (List Int)} : y ∈ nearL Y bs ↔ ∃ m ∈ bs, y = plusV 1 Y m ∧ posV y = true := by
  unfold nearL
  rw [List.mem_filter, List.mem_map]
  constructor
  · rintro ⟨⟨m, hm, rfl⟩, hp⟩; exact ⟨m, hm, rfl, hp⟩
  · rintro ⟨m, hm, rfl, hp⟩; exact ⟨⟨m, hm, rfl⟩, hp⟩
section
variable {a : List (List Int)} {bs : List (List Int)} {X : List Int} {st : List Int → Bool} {es : List Ent} {i : Nat}
theorem Sr.fam (hm : Sp.mat a = true) (hB : IsB (a.map Sp.pad) (a.getD 0 []).length bs) (hX : X.length = 4) (hXp : ∀ j, (a.getD 0 []).length ≤ j → X.getD j 0 = 0) (hX0 : posV X = true) (h : Sr bs X st es i) : ∀ e ∈ es, Sp.Fam (a.map Sp.pad) (a.getD 0 []).length X e.1 :=
  h.ind (Sp.Fam.self hX hXp hX0) fun Y y hY hy => by
    obtain ⟨m, hm', rfl, hp⟩ := mem_near.1 hy
    exact hY.step hX ((Sp.mem_bs hm hB).1 hm') hp
/-- What some of it are. -/
def keysAt (es : List Ent) (q : List Nat) : List (List Int) := q.map fun k => (es.map (·.1)).getD k []
/-- All asked: all of the family is there. -/
theorem Sr.all (hm : Sp.mat a = true) (hB : IsB (a.map Sp.pad) (a.getD 0 []).length bs) (hX : X.length = 4) (hXp : ∀ j, (a.getD 0 []).length ≤ j → X.getD j 0 = 0) (hX0 : posV X = true) (h : Sr bs X st es es.length) (Y : List Int) : Y ∈ es.map (·.1) ↔ Sp.Fam (a.map Sp.pad) (a.getD 0 []).length X Y := by
  constructor
  · intro hy
    obtain ⟨e, he, rfl⟩ := List.mem_map.1 hy
    exact h.fam hm hB hX hXp hX0 e he
  · intro hF
    refine Sp.fam_ind hm hX hXp hX0 (P := fun Y => Y ∈ es.map (·.1)) (List.mem_map.2 ⟨_, List.mem_of_getElem? h.first, rfl⟩) (fun Z m _ hZ hM hp => ?_) hF
    obtain ⟨e, he, rfl⟩ := List.mem_map.1 hZ
    obtain ⟨j, hj⟩ := List.getElem?_of_mem he
    exact hasK_iff.1 (h.closed j (List.getElem?_eq_some_iff.1 hj).1 e.1 e.2.1 e.2.2 hj _ (mem_near.2 ⟨m, (Sp.mem_bs hm hB).2 hM, rfl, hp⟩))
end
set_option maxRecDepth 20000 in
set_option maxHeartbeats 4000000 in
theorem s100 (rows : List (List Int)) (n : Nat) (bs : List (List Int)) (X : List Int) (h1 : 1 ≤ n) (hn : n ≤ 4) (hX : X.length = 4) (h4 : ∀ m ∈ bs, m.length = 4) (hbl : bs.length ≤ 2000000) (bb : ∀ m ∈ bs, Sp.inB 16 m)
    (hbnd : ∀ es i, Sr bs X (fun _ => false) es i → es.length ≤ 34359738367 ∧ ∀ e ∈ es, Sp.inB 90000 e.1) :
    Abs.Spec Try.prog 100 [taskV rows n bs X] [] fun v H' => H' = [] ∧ ∃ (es : List Ent) (l : List (List Int)), Sr bs X (fun _ => false) es es.length ∧ l.Nodup ∧ (∀ y, y ∈ l ↔ y ∈ es.map (·.1)) ∧ v = .sl false false (mS (Sp.sortV (l.map fun x => x.take n))) := by
  refine Abs.Spec.walk mixed fn100 nn100 t100 q100 nt100 (by simp) ?_
  have hXl : (mI X).length = 4 := by rw [mI_length, hX]
  have acX := allI_cell X
  obtain ⟨tc, htc⟩ : ∃ tc, AVal.sl false false (mV rows) :: I n :: .sl false false (mV bs) :: mI X = tc := ⟨_, rfl⟩
  have htl : tc.length = 7 := by rw [← htc]; simp [hXl]
  have htA : tc.all AVal.isCell = true := by rw [← htc]; show (true && (true && (true && (mI X).all AVal.isCell))) = true; rw [acX]; rfl
  have gT : cut true 7 tc = taskV rows n bs X := by
    show AVal.agg (List.take 7 _) = _
    rw [List.take_of_length_le (by omega), ← htc]; rfl
  have htb : bndL 0 tc = true := by rw [← htc]; simp [bndL, AVal.bnd, mV_bnd, mI_bnd]
  have gM : cut true 2 tc = matV rows n := by rw [← htc]; rfl
  simp only [w100, taskV_eq, htc, htl, gT, go_sem, Nat.reduceEqDiff, Nat.reduceAdd, Nat.reduceLT, Nat.reduceLeDiff, reduceIte, reduceCtorEq]
  have htv : AVal.agg tc = taskV rows n bs X := by rw [← htc]; rfl
  have h69 := s69 rows n bs X (.fn (.func 99) [] []) (fun _ => false) hX h4 hbl bb (fun N => rfl) (fun y H hy => CallV.of_spec (first := []) (cap := []) (Spec.lift (s99 y) (by simp [bndL, AVal.bnd, mI_bnd]) rfl H)) hbnd
  refine ⟨htA, CallK.by (CallV.of_spec (first := []) (cap := []) (Spec.lendM (C := fun es' => ∃ es i, Sr bs X (fun _ => false) es i ∧ i = es.length ∧ es' = es.map entA) (args' := [taskV rows n bs X, .fn (.func 99) [] []]) (h69.mono fun v H' ⟨es, i, hS, he, hv, hH⟩ => ⟨_, ⟨es, i, hS, he.elim id (fun ⟨_, _, _, _, h⟩ => by cases h), rfl⟩, hv, hH⟩) (fun es' ⟨es, i, _, _, h⟩ p hp => ?_) ⟨?_, ?_, trivial⟩)) fun v H' ⟨es', ⟨es, i, hS, hi, he'⟩, hv, hH⟩ => ?_⟩
  · subst h
    obtain ⟨e, _, rfl⟩ := List.mem_map.1 hp
    have fl : ∀ y : List Int, (vec y).flat = true := fun y => by simp [vec, AVal.flat, mI]
    exact ⟨fl _, fl _⟩
  · exact .inl ⟨htc.symm, by simp [bndL, AVal.bnd, mV_bnd, mI_bnd]⟩
  · simp [vle, vle.vleL]
  subst he' hv hH hi
  have hlen := hS.len hX h4
  have hB1 := (hbnd _ _ hS).1
  simp only [List.set_cons_succ, List.set_cons_zero, List.getElem?_cons_succ, List.getElem?_cons_zero, go_sem, Nat.reduceEqDiff, Nat.reduceAdd, Nat.reduceLT, Nat.reduceLeDiff, reduceIte, reduceCtorEq]
  have cM := mapB_bnd es
  refine W_loop (fun q : { q : List Nat // q.Nodup ∧ ∀ k ∈ q, k < es.length } => ([(1, .ptr 0 0), (3, .own 3 0 q.1.length q.1.length 4), (7, .ptr 2 0)], [.cells tc, .map (es.map entA), .iter 1 es.length q.1, .cells (mI (keysAt es q.1).flatten)])) (fun q => es.length - q.1.length) ⟨[], List.nodup_nil, by simp⟩ [some 0, some 1, some 2, none]
    (Wk.mk0 rfl (by simp [imgs, Blk.alive]) (by simp only [hle, csle, keysAt]; simp [htb, cM, mI]) (by simp [fle, vle, Fr.get])) ?_
  rintro ⟨q, hq, hqn⟩
  dsimp only
  have kl : (keysAt es q).length = q.length := by simp [keysAt]
  have k4 : ∀ v ∈ keysAt es q, v.length = 4 := fun v hv => by
    obtain ⟨k, hk, rfl⟩ := List.mem_map.1 hv
    have hkn := hqn k hk
    have e : (es.map (·.1)).getD k [] = es[k].1 := by simp [List.getD_eq_getElem?_getD, hkn]
    rw [e]
    exact (hlen _ (List.getElem_mem hkn)).1
  have fl4 : (mI (keysAt es q).flatten).length = q.length * 4 := by
    rw [mI_length, ← kl]
    exact flat_len k4
  have qle : q.length ≤ es.length := by
    have := hq.length_le_of_subset (l₂ := List.range es.length) fun k hk => List.mem_range.2 (hqn k hk)
    simpa using this
  simp only [w100L0, go_sem, Nat.reduceEqDiff, Nat.reduceAdd, Nat.reduceLT, Nat.reduceLeDiff, reduceIte, reduceCtorEq]
  refine mnext_go rfl rfl (by simp) (fun hall => ?_) fun k p hk hkq => ?_
  · simp only [w100T1, List.getD_cons_zero, List.getD_cons_succ, gM, htl, go_sem, Nat.reduceEqDiff, Nat.reduceAdd, Nat.reduceLT, Nat.reduceLeDiff, reduceIte, reduceCtorEq]
    have kn : (keysAt es q).Nodup := by
      unfold keysAt List.Nodup
      rw [List.pairwise_map]
      refine hq.imp_of_mem fun {a b} ha hb hab e => hab ?_
      have ha' := hqn a ha
      have hb' := hqn b hb
      rw [List.getD_eq_getElem?_getD, List.getD_eq_getElem?_getD, List.getElem?_eq_getElem (by simpa using ha'), List.getElem?_eq_getElem (by simpa using hb')] at e
      exact (List.getElem_inj hS.nd).1 e
    have h84 := s84 rows n h1 hn (keysAt es q) k4 (by omega)
    refine CallK.by (CallV.of_spec (first := []) (cap := []) (Spec.give (args := [matV rows n, .own 3 0 q.length q.length 4]) (H := [.cells tc, .map (es.map entA), .iter 1 es.length q, .cells (mI (keysAt es q).flatten)]) (ρ := []) (R := fun H' => H' = []) (h84.mono fun v' H' h => ⟨h.2, h.1⟩) rfl (Wk.nil ⟨.inl ⟨rfl, by simp [bndL, AVal.bnd, mV_bnd]⟩, vle_mV k4 rfl (by simp) kl.symm, trivial⟩) (by simp [AVal.bnd, mS_bnd]))) fun v H' ⟨hv, hH⟩ => ?_
    subst hv
    simp only [go_sem, Nat.reduceEqDiff, Nat.reduceAdd, Nat.reduceLT, Nat.reduceLeDiff, reduceIte, reduceCtorEq]
    refine leaf (.sl false false (mS (Sp.sortV ((keysAt es q).map fun x => x.take n)))) ⟨mS_bnd, fun h => h, fun h => h, rfl⟩ ⟨rfl, es, keysAt es q, hS, kn, fun y => ?_, rfl⟩
    constructor
    · intro hy
      obtain ⟨k, hk, rfl⟩ := List.mem_map.1 hy
      rw [List.getD_eq_getElem?_getD, List.getElem?_eq_getElem (by simpa using hqn k hk)]
      exact List.getElem_mem _
    · intro hy
      obtain ⟨k, hk, rfl⟩ := List.getElem_of_mem hy
      refine List.mem_map.2 ⟨k, hall k (by simpa using hk), ?_⟩
      rw [List.getD_eq_getElem?_getD, List.getElem?_eq_getElem hk]; rfl
  · have hkn : k < es.length := by have := (List.getElem?_eq_some_iff.1 hk).1; simpa using this
    obtain ⟨y, hy⟩ : ∃ y, es[k].1 = y := ⟨_, rfl⟩
    obtain ⟨f, hf⟩ : ∃ f, es[k].2.1 = f := ⟨_, rfl⟩
    have hp : p = (vec y, vec f) := by
      rw [List.getElem?_map, List.getElem?_eq_getElem hkn] at hk
      simp only [Option.map_some, Option.some.injEq] at hk
      rw [← hk, ← hy, ← hf]; rfl
    subst hp
    have hgl : (q ++ [k]).getLast? = some k := by simp
    have yl : y.length = 4 := by rw [← hy]; exact (hlen _ (List.getElem_mem hkn)).1
    have hyl : (mI y).length = 4 := by rw [mI_length, yl]
    have gy : cut true 4 (mI y) = vec y := cut_vec yl
    have acy := allI_cell y
    have hd0 : List.drop 4 [[I 0, I 0, I 0, I 0]].flatten = [] := rfl
    simp only [List.getD_cons_zero, List.getD_cons_succ, hgl, hk, hyl, gy, hd0, vec_eq, List.set_cons_succ, List.set_cons_zero, List.getElem?_cons_succ, List.getElem?_cons_zero, go_sem, Nat.reduceEqDiff, Nat.reduceAdd, Nat.reduceLT, Nat.reduceLeDiff, reduceIte, reduceCtorEq]
    have ek : keysAt es (q ++ [k]) = keysAt es q ++ [y] := by
      unfold keysAt
      rw [List.map_append, List.map_cons, List.map_nil, List.getD_eq_getElem?_getD, List.getElem?_eq_getElem (by simpa using hkn)]
      simp [hy]
    have ef : List.take (q.length * 4) (keysAt es q).flatten ++ List.take 4 y = (keysAt es (q ++ [k])).flatten := by
      rw [ek, List.flatten_append, List.take_of_length_le (by rw [flat_len k4, kl]; omega), List.take_of_length_le (by omega)]; simp
    have qlt : q.length < es.length := by
      have hn : (q ++ [k]).Nodup := List.nodup_append.2 ⟨hq, by simp, fun a ha b hb => by simp at hb; subst hb; exact fun e => hkq (e ▸ ha)⟩
      have := hn.length_le_of_subset (l₂ := List.range es.length) fun k' hk' => by
        rw [List.mem_range]
        rcases List.mem_append.1 hk' with h | h
        · exact hqn _ h
        · simp at h; omega
      simp at this; omega
    rw [ef]
    refine ⟨acy, ⟨by rw [flat_len k4, kl]; omega, by omega⟩, round1 rfl ⟨q ++ [k], List.nodup_append.2 ⟨hq, by simp, fun a ha b hb => by simp at hb; subst hb; exact fun e => hkq (e ▸ ha)⟩, fun k' hk' => ?_⟩ [some 0, some 1, some 2, some 6] (by simp; omega) (Wk.mk0 rfl (by simp [imgs, Blk.alive]) (by simp only [hle, csle]; simp [htb, cM, mI_bnd]) (by simp [fle, vle, Fr.get]))⟩
    rcases List.mem_append.1 hk' with h | h
    · exact hqn _ h
    · simp at h; omega
/-! ### The answers of Count and Family. -/
theorem box_gen (K : Nat) {l : List (List Int)} (hd : l.Nodup) (hl : ∀ y ∈ l, y.length = 4 ∧ ∀ z ∈ y, 0 ≤ z ∧ z < K) : l.length ≤ K * (K * (K * K)) := by
  have four : ∀ y ∈ l, ∃ a b c d : Nat, y = [(a : Int), (b : Int), (c : Int), (d : Int)] ∧ a < K ∧ b < K ∧ c < K ∧ d < K := fun y hy => by
    obtain ⟨h4, hz⟩ := hl y hy
    rcases y with _ | ⟨a, _ | ⟨b, _ | ⟨c, _ | ⟨d, _ | ⟨e, y⟩⟩⟩⟩⟩ <;> simp at h4
    have ha := hz a (by simp)
    have hb := hz b (by simp)
    have hc := hz c (by simp)
    have hd := hz d (by simp)
    refine ⟨a.toNat, b.toNat, c.toNat, d.toNat, ?_, by omega, by omega, by omega, by omega⟩
    rw [Int.toNat_of_nonneg ha.1, Int.toNat_of_nonneg hb.1, Int.toNat_of_nonneg hc.1, Int.toNat_of_nonneg hd.1]
  have step : ∀ {a N x : Nat}, a < K → x < N → a + K * x < K * N := fun {a N x} ha hx => by
    have : K * (x + 1) ≤ K * N := Nat.mul_le_mul_left K hx
    rw [Nat.mul_add] at this; omega
  have inj : ∀ {a b x y : Nat}, a < K → b < K → a + K * x = b + K * y → a = b ∧ x = y := fun {a b x y} ha hb h => by
    have h1 := congrArg (· % K) h
    have h2 := congrArg (· / K) h
    simp only [Nat.add_mul_mod_self_left, Nat.mod_eq_of_lt ha, Nat.mod_eq_of_lt hb] at h1
    have hK : 0 < K := by omega
    simp only [Nat.add_mul_div_left _ _ hK, Nat.div_eq_of_lt ha, Nat.div_eq_of_lt hb] at h2
    exact ⟨h1, by omega⟩
  refine Sp.count_le (f := fun y => (y.getD 0 0).toNat + K * ((y.getD 1 0).toNat + K * ((y.getD 2 0).toNat + K * (y.getD 3 0).toNat))) hd (fun y hy => ?_) fun y hy w hw e => ?_
  · obtain ⟨a, b, c, d, rfl, ha, hb, hc, hd⟩ := four y hy
    exact step ha (step hb (step hc hd))
  · obtain ⟨a, b, c, d, rfl, ha, hb, hc, hd⟩ := four y hy
    obtain ⟨a', b', c', d', rfl, ha', hb', hc', hd'⟩ := four w hw
    obtain ⟨h1, e⟩ := inj ha ha' e
    obtain ⟨h2, e⟩ := inj hb hb' e
    obtain ⟨h3, e⟩ := inj hc hc' e
    have e : d = d' := e
    rw [h1, h2, h3, e]
theorem vecOk_spec {a : List (List Int)} {x : List Int} {most : Int} (h0 : 0 ≤ most) (h : Sp.vecOk a x 0 most = true) : Sp.mat a = true ∧ x.length = (a.getD 0 []).length ∧ (Sp.pad x).length = 4 ∧ Sp.inB most (Sp.pad x) ∧ posV (Sp.pad x) = true ∧ Sp.inB most x ∧ (∀ j, (a.getD 0 []).length ≤ j → (Sp.pad x).getD j 0 = 0) ∧ posV x = true := by
  unfold Sp.vecOk at h
  simp only [Bool.and_eq_true, decide_eq_true_eq] at h
  obtain ⟨hm, xl, xn⟩ := h
  obtain ⟨-, -, n1, n4⟩ := mat_rows hm
  have hx : ∀ z ∈ x, 0 ≤ z ∧ z ≤ most := by
    unfold Sp.numbers at xn
    rw [List.all_eq_true] at xn
    intro z hz
    have := xn z hz
    simp only [Bool.and_eq_true, decide_eq_true_eq] at this
    exact this
  have bx : Sp.inB most x := fun z hz => by have := hx z hz; omega
  have px : posV x = true := by
    unfold posV
    rw [List.all_eq_true]
    exact fun z hz => decide_eq_true (hx z hz).1
  exact ⟨hm, xl, Sp.pad_len (by omega), (Sp.inB_pad h0).2 bx, by rw [Sp.posV_pad]; exact px, bx, fun j hj => Sp.pad_getD xl hj, px⟩
/-- The family of a vector, in order. -/
def FamL (a : List (List Int)) (x : List Int) (F : List (List Int)) : Prop := F.Pairwise (fun a b => Sp.cmpL a b < 0) ∧ ∀ y, y ∈ F ↔ y.length = (a.getD 0 []).length ∧ Sp.Fam (a.map Sp.pad) (a.getD 0 []).length (Sp.pad x) (Sp.pad y)
theorem FamL.uniq {a : List (List Int)} {x : List Int} {F F' : List (List Int)} (h : FamL a x F) (h' : FamL a x F') : F = F' :=
  Sp.asc_unique (h.1.imp fun h => by omega) (h'.1.imp fun h => by omega) (Sp.perm_of (h.1.imp fun h e => by subst e; rw [Sp.cmpL_self] at h; omega) (h'.1.imp fun h e => by subst e; rw [Sp.cmpL_self] at h; omega) fun y => (h.2 y).trans (h'.2 y).symm)
theorem famL_of {a : List (List Int)} {bs : List (List Int)} {x : List Int} {st : List Int → Bool} {es : List Ent} {l : List (List Int)} (hm : Sp.mat a = true) (hB : IsB (a.map Sp.pad) (a.getD 0 []).length bs) (xl : x.length = (a.getD 0 []).length) (px : posV x = true) (h : Sr bs (Sp.pad x) st es es.length) (hd : l.Nodup) (hl : ∀ y, y ∈ l ↔ y ∈ es.map (·.1)) :
    FamL a x (Sp.sortV (l.map fun y => y.take (a.getD 0 []).length)) := by
  obtain ⟨-, -, n1, n4⟩ := mat_rows hm
  have hall := h.all hm hB (Sp.pad_len (by omega)) (fun j hj => Sp.pad_getD xl hj) (by rw [Sp.posV_pad]; exact px)
  have hF : ∀ y ∈ l, Sp.Fam (a.map Sp.pad) (a.getD 0 []).length (Sp.pad x) y := fun y hy => (hall y).1 ((hl y).1 hy)
  have nd : (l.map fun y => y.take (a.getD 0 []).length).Nodup := by
    unfold List.Nodup
    rw [List.pairwise_map]
    refine hd.imp_of_mem fun {y z} hy hz hne e => hne ?_
    have h1 := Sp.take_pad n4 (hF y hy).len (hF y hy).pad
    have h2 := Sp.take_pad n4 (hF z hz).len (hF z hz).pad
    rw [← h1, ← h2, e]
  refine ⟨?_, fun y => ?_⟩
  · have h1 : (Sp.sortV (l.map fun y => y.take (a.getD 0 []).length)).Nodup := (Sp.sortV_perm _).nodup_iff.2 nd
    refine List.Pairwise.imp₂ (fun x y hne hle => ?_) h1 (Sp.sortV_asc _)
    rcases Int.lt_or_eq_of_le hle with h | h
    · exact h
    · exact absurd (Sp.cmpL_eq h) hne
  · rw [(Sp.sortV_perm _).mem_iff, List.mem_map]
    constructor
    · rintro ⟨z, hz, rfl⟩
      have hz' := hF z hz
      exact ⟨by rw [List.length_take, hz'.len]; omega, by rw [Sp.take_pad n4 hz'.len hz'.pad]; exact hz'⟩
    · rintro ⟨yl, hy⟩
      exact ⟨Sp.pad y, (hl _).2 ((hall _).2 hy), Sp.pad_take yl⟩
/-- Without pure moves no search gets far. -/
theorem sr_bnd {a : List (List Int)} {bs : List (List Int)} {x : List Int} {st : List Int → Bool} (hv : Sp.vecOk a x 0 6 = true) (hB : IsB (a.map Sp.pad) (a.getD 0 []).length bs) (hnp : bs.any posV = false) {es : List Ent} {i : Nat} (h : Sr bs (Sp.pad x) st es i) :
    es.length ≤ 23372600161 ∧ ∀ e ∈ es, Sp.inB 90000 e.1 := by
  obtain ⟨hm, xl, Xl, bX, pX, bx, Xp, px⟩ := vecOk_spec (by decide) hv
  have hfam := h.fam hm hB Xl Xp pX
  have hnp' : ∀ m, Sp.Mini (a.map Sp.pad) (a.getD 0 []).length m → posV m = false := fun m hM => by
    have := (Sp.mem_bs hm hB).2 hM
    have h := List.any_eq_false.1 hnp m this
    simpa using h
  have hb : ∀ e ∈ es, Sp.inB (65 * 6) e.1 := fun e he => Sp.fam_bound hm Xl Xp pX (by decide) bX hnp' (hfam e he)
  refine ⟨?_, fun e he => Sp.inB_mono (hb e he) (by decide)⟩
  have := box_gen 391 h.nd fun y hy => by
    obtain ⟨e, he, rfl⟩ := List.mem_map.1 hy
    have hf := hfam e he
    refine ⟨hf.len, fun z hz => ?_⟩
    have h1 := hb e he z hz
    have h2 := hf.pos
    unfold posV at h2
    rw [List.all_eq_true] at h2
    have := of_decide_eq_true (h2 z hz)
    omega
  rw [List.length_map] at this
  omega
def countR (a : List (List Int)) (x : List Int) (v : AVal) : Prop :=
  (Sp.vecOk a x 0 6 = false ∧ v = .tup [I 0, I 2]) ∨ (Sp.vecOk a x 0 6 = true ∧ (Sp.basL a).any posV = true ∧ v = .tup [I 0, I 5]) ∨
  (Sp.vecOk a x 0 6 = true ∧ (Sp.basL a).any posV = false ∧ ∃ F, FamL a x F ∧ F.length ≤ 23372600161 ∧ v = .tup [I F.length, I 0])
def famR (a : List (List Int)) (x : List Int) (v : AVal) : Prop :=
  (Sp.vecOk a x 0 6 = false ∧ v = .tup [.sl false false (mS []), I 2]) ∨ (Sp.vecOk a x 0 6 = true ∧ (Sp.basL a).any posV = true ∧ v = .tup [.sl false false (mS []), I 5]) ∨
  (Sp.vecOk a x 0 6 = true ∧ (Sp.basL a).any posV = false ∧ ∃ F, FamL a x F ∧ F.length ≤ 23372600161 ∧ (∀ y ∈ F, ∀ z ∈ y, 0 ≤ z ∧ z ≤ 390) ∧ v = .tup [.sl false false (mS F), I 0])
set_option maxRecDepth 20000 in
set_option maxHeartbeats 4000000 in
theorem s58 (a : List (List Int)) (x : List Int) (ha : ∀ l ∈ a, l.length < 9223372036854775808) (hl : a.length < 9223372036854775808) (hx : x.length < 9223372036854775808) :
    Abs.Spec Try.prog 58 [.sl false false (mS a), .sl false false (mI x)] [] fun v H' => H' = [] ∧ countR a x v := by
  refine Abs.Spec.walk mixed fn58 nn58 t58 q58 nt58 (by simp) ?_
  simp only [w58, go_sem, Nat.reduceEqDiff, Nat.reduceAdd, Nat.reduceLT, Nat.reduceLeDiff, reduceIte, reduceCtorEq]
  refine CallK.by (CallV.of_spec (first := []) (cap := []) (s98 a x 6 ha hl hx)) fun v H' ⟨hH, hr⟩ => ?_
  subst hH
  rcases hr with ⟨hok, hv⟩ | ⟨hok, bs, hB, hv⟩
  · subst hv
    simp only [zT, List.getD_cons_zero, List.getD_cons_succ, go_sem, Nat.reduceEqDiff, Nat.reduceAdd, Nat.reduceLT, Nat.reduceLeDiff, reduceIte, reduceCtorEq]
    exact leaf2 (.tup [I 0, I 2]) ⟨rfl, rfl, trivial⟩ ⟨rfl, .inl ⟨hok, rfl⟩⟩
  · subst hv
    obtain ⟨hm, xl, Xl, bX, pX, bx, Xp, px⟩ := vecOk_spec (by decide) hok
    obtain ⟨r1, r2, n1, n4⟩ := mat_rows hm
    have hpure := any_pure hm hB
    have bnd := fun hnp es i => sr_bnd (x := x) (st := fun _ => false) hok hB hnp (es := es) (i := i)
    have fam := fun es l h1 h2 h3 => famL_of (st := fun _ => false) (es := es) (l := l) hm hB xl px h1 h2 h3
    obtain ⟨X, hX⟩ : ∃ X, Sp.pad x = X := ⟨_, rfl⟩
    obtain ⟨n, hn⟩ : ∃ n, (a.getD 0 []).length = n := ⟨_, rfl⟩
    rw [hX] at Xl bX bnd fam
    rw [hX, hn]
    have Xm : (mI X).length = 4 := by rw [mI_length, Xl]
    have acX := allI_cell X
    have htA : (.sl false false (mV (a.map Sp.pad)) :: I n :: .sl false false (mV bs) :: mI X : List AVal).all AVal.isCell = true := by show (true && (true && (true && (mI X).all AVal.isCell))) = true; rw [acX]; rfl
    have gT : cut true 7 (.sl false false (mV (a.map Sp.pad)) :: I n :: .sl false false (mV bs) :: mI X) = taskV (a.map Sp.pad) n bs X := by
      show AVal.agg (List.take 7 _) = _
      rw [List.take_of_length_le (by simp [Xm])]; rfl
    cases hnp : bs.any posV with
    | true =>
      have z5 : ((5 : Int) != 0) = true := rfl
      simp only [taskV_eq, List.getD_cons_zero, List.getD_cons_succ, Xm, z5, go_sem, Nat.reduceEqDiff, Nat.reduceAdd, Nat.reduceLT, Nat.reduceLeDiff, reduceIte, reduceCtorEq]
      exact ⟨htA, leaf2 (.tup [I 0, I 5]) ⟨rfl, rfl, trivial⟩ ⟨rfl, .inr (.inl ⟨hok, by rw [← hpure]; exact hnp, rfl⟩)⟩⟩
    | false =>
      have hB4 : ∀ y ∈ bs, y.length = 4 := fun y hy => (hB.ok y hy).1
      obtain ⟨q1, q2, -, -⟩ := Sp.mat_cols hm rfl
      have hB16 : ∀ y ∈ bs, Sp.inB 16 y := fun y hy => Sp.inB_mono (((Sp.mem_bs hm hB).1 hy).bnd q1 q2 (by omega)) (by unfold Sp.bnd; split <;> (try split) <;> (try split) <;> omega)
      have hBl := hB.len (by omega)
      have h69 := s69 (a.map Sp.pad) n bs X (.fn (.func 99) [] []) (fun _ => false) Xl hB4 (by omega) hB16 (fun N => rfl) (fun y H hy => CallV.of_spec (first := []) (cap := []) (Spec.lift (s99 y) (by simp [bndL, AVal.bnd, mI_bnd]) rfl H)) fun es i h => by
        obtain ⟨h1, h2⟩ := bnd hnp es i h
        exact ⟨by omega, h2⟩
      have hta : AVal.agg (.sl false false (mV (a.map Sp.pad)) :: I n :: .sl false false (mV bs) :: mI X) = taskV (a.map Sp.pad) n bs X := rfl
      simp only [taskV_eq, List.getD_cons_zero, List.getD_cons_succ, Xm, gT, go_sem, Nat.reduceEqDiff, Nat.reduceAdd, Nat.reduceLT, Nat.reduceLeDiff, reduceIte, reduceCtorEq]
      refine ⟨htA, CallK.by (CallV.of_spec (first := []) (cap := []) (Spec.lendM (C := fun es' => ∃ es i, Sr bs X (fun _ => false) es i ∧ i = es.length ∧ es' = es.map entA) (args' := [taskV (a.map Sp.pad) n bs X, .fn (.func 99) [] []]) (h69.mono fun v H' ⟨es, i, hS, he, hv, hH⟩ => ⟨_, ⟨es, i, hS, he.elim id (fun ⟨_, _, _, _, h⟩ => by cases h), rfl⟩, hv, hH⟩) (fun es' ⟨es, i, _, _, h⟩ p hp => ?_) ⟨?_, ?_, trivial⟩)) fun v H' ⟨es', ⟨es, i, hS, hi, he'⟩, hv, hH⟩ => ?_⟩
      · subst h
        obtain ⟨e, _, rfl⟩ := List.mem_map.1 hp
        have fl : ∀ y : List Int, (vec y).flat = true := fun y => by simp [vec, AVal.flat, mI]
        exact ⟨fl _, fl _⟩
      · exact .inl ⟨rfl, by simp [bndL, AVal.bnd, mV_bnd, mI_bnd]⟩
      · simp [vle, vle.vleL]
      subst he' hv hH hi
      simp only [List.set_cons_succ, List.set_cons_zero, List.getElem?_cons_succ, List.getElem?_cons_zero, go_sem, Nat.reduceEqDiff, Nat.reduceAdd, Nat.reduceLT, Nat.reduceLeDiff, reduceIte, reduceCtorEq]
      obtain ⟨h1, -⟩ := bnd hnp _ _ hS
      have hF := fam es (es.map (·.1)) hS hS.nd fun y => Iff.rfl
      have hlen : (Sp.sortV ((es.map (·.1)).map fun y => y.take (a.getD 0 []).length)).length = es.length := by rw [(Sp.sortV_perm _).length_eq]; simp
      exact leaf2 (.tup [I es.length, I 0]) ⟨rfl, rfl, trivial⟩ ⟨rfl, .inr (.inr ⟨hok, by rw [← hpure]; exact hnp, _, hF, by omega, by rw [hlen]⟩)⟩
set_option maxRecDepth 20000 in
set_option maxHeartbeats 4000000 in
theorem s59 (a : List (List Int)) (x : List Int) (ha : ∀ l ∈ a, l.length < 9223372036854775808) (hl : a.length < 9223372036854775808) (hx : x.length < 9223372036854775808) :
    Abs.Spec Try.prog 59 [.sl false false (mS a), .sl false false (mI x)] [] fun v H' => H' = [] ∧ famR a x v := by
  refine Abs.Spec.walk mixed fn59 nn59 t59 q59 nt59 (by simp) ?_
  simp only [w59, go_sem, Nat.reduceEqDiff, Nat.reduceAdd, Nat.reduceLT, Nat.reduceLeDiff, reduceIte, reduceCtorEq]
  refine CallK.by (CallV.of_spec (first := []) (cap := []) (s98 a x 6 ha hl hx)) fun v H' ⟨hH, hr⟩ => ?_
  subst hH
  rcases hr with ⟨hok, hv⟩ | ⟨hok, bs, hB, hv⟩
  · subst hv
    simp only [zT, List.getD_cons_zero, List.getD_cons_succ, go_sem, Nat.reduceEqDiff, Nat.reduceAdd, Nat.reduceLT, Nat.reduceLeDiff, reduceIte, reduceCtorEq]
    exact leaf2 (.tup [.sl false false (mS []), I 2]) ⟨⟨rfl, rfl, rfl⟩, rfl, trivial⟩ ⟨rfl, .inl ⟨hok, rfl⟩⟩
  · subst hv
    obtain ⟨hm, xl, Xl, bX, pX, bx, Xp, px⟩ := vecOk_spec (by decide) hok
    obtain ⟨r1, r2, n1, n4⟩ := mat_rows hm
    have hpure := any_pure hm hB
    have bnd := fun hnp es i => sr_bnd (x := x) (st := fun _ => false) hok hB hnp (es := es) (i := i)
    have fam := fun es l h1 h2 h3 => famL_of (st := fun _ => false) (es := es) (l := l) hm hB xl px h1 h2 h3
    obtain ⟨X, hX⟩ : ∃ X, Sp.pad x = X := ⟨_, rfl⟩
    obtain ⟨n, hn⟩ : ∃ n, (a.getD 0 []).length = n := ⟨_, rfl⟩
    rw [hX] at Xl bX bnd fam
    rw [hn] at fam n1 n4
    rw [hX, hn]
    have Xm : (mI X).length = 4 := by rw [mI_length, Xl]
    have acX := allI_cell X
    have htA : (.sl false false (mV (a.map Sp.pad)) :: I n :: .sl false false (mV bs) :: mI X : List AVal).all AVal.isCell = true := by show (true && (true && (true && (mI X).all AVal.isCell))) = true; rw [acX]; rfl
    have gT : cut true 7 (.sl false false (mV (a.map Sp.pad)) :: I n :: .sl false false (mV bs) :: mI X) = taskV (a.map Sp.pad) n bs X := by
      show AVal.agg (List.take 7 _) = _
      rw [List.take_of_length_le (by simp [Xm])]; rfl
    cases hnp : bs.any posV with
    | true =>
      have z5 : ((5 : Int) != 0) = true := rfl
      simp only [taskV_eq, List.getD_cons_zero, List.getD_cons_succ, Xm, z5, go_sem, Nat.reduceEqDiff, Nat.reduceAdd, Nat.reduceLT, Nat.reduceLeDiff, reduceIte, reduceCtorEq]
      exact ⟨htA, leaf2 (.tup [.sl false false (mS []), I 5]) ⟨⟨rfl, rfl, rfl⟩, rfl, trivial⟩ ⟨rfl, .inr (.inl ⟨hok, by rw [← hpure]; exact hnp, rfl⟩)⟩⟩
    | false =>
      have hB4 : ∀ y ∈ bs, y.length = 4 := fun y hy => (hB.ok y hy).1
      obtain ⟨q1, q2, -, -⟩ := Sp.mat_cols hm rfl
      have hB16 : ∀ y ∈ bs, Sp.inB 16 y := fun y hy => Sp.inB_mono (((Sp.mem_bs hm hB).1 hy).bnd q1 q2 (by omega)) (by unfold Sp.bnd; split <;> (try split) <;> (try split) <;> omega)
      have hBl := hB.len (by omega)
      have h100 := s100 (a.map Sp.pad) n bs X n1 n4 Xl hB4 (by omega) hB16 fun es i h => by
        obtain ⟨h1, h2⟩ := bnd hnp es i h
        exact ⟨by omega, h2⟩
      have hta : AVal.agg (.sl false false (mV (a.map Sp.pad)) :: I n :: .sl false false (mV bs) :: mI X) = taskV (a.map Sp.pad) n bs X := rfl
      simp only [taskV_eq, List.getD_cons_zero, List.getD_cons_succ, Xm, gT, go_sem, Nat.reduceEqDiff, Nat.reduceAdd, Nat.reduceLT, Nat.reduceLeDiff, reduceIte, reduceCtorEq]
      refine ⟨htA, CallK.by (CallV.of_spec (first := []) (cap := []) (Spec.liftE h100 (by simp [bndL, AVal.bnd, mV_bnd, mI_bnd, taskV]) (fun v ⟨es, l, _, _, _, h⟩ => by subst h; simp [AVal.bnd, mS_bnd]) _)) fun v H' ⟨⟨es, l, hS, hd, hl', hv⟩, hH⟩ => ?_⟩
      subst hv hH
      simp only [go_sem, Nat.reduceEqDiff, Nat.reduceAdd, Nat.reduceLT, Nat.reduceLeDiff, reduceIte, reduceCtorEq]
      obtain ⟨h1, -⟩ := bnd hnp _ _ hS
      have hF := fam es l hS hd hl'
      have hlen : (Sp.sortV (l.map fun y => y.take n)).length = es.length := by
        rw [(Sp.sortV_perm _).length_eq, List.length_map, (Sp.perm_of hd hS.nd hl').length_eq]; simp
      have hb390 : ∀ y ∈ Sp.sortV (l.map fun y => y.take n), ∀ z ∈ y, 0 ≤ z ∧ z ≤ 390 := fun y hy z hz => by
        rw [(Sp.sortV_perm _).mem_iff] at hy
        obtain ⟨w, hw, rfl⟩ := List.mem_map.1 hy
        have hz' := List.mem_of_mem_take hz
        obtain ⟨hm2, xl2, Xl2, bX2, pX2, bx2, Xp2, px2⟩ := vecOk_spec (by decide) hok
        rw [← hX] at hS
        have hfam := hS.fam hm hB Xl2 Xp2 pX2
        obtain ⟨e, he, rfl⟩ := List.mem_map.1 ((hl' w).1 hw)
        have hf := hfam e he
        have hnp' : ∀ m, Sp.Mini (a.map Sp.pad) (a.getD 0 []).length m → posV m = false := fun m hM => by
          have := (Sp.mem_bs hm hB).2 hM
          have h := List.any_eq_false.1 hnp m this
          simpa using h
        have h1 := Sp.fam_bound hm Xl2 Xp2 pX2 (by decide) bX2 hnp' hf z hz'
        have h2 := hf.pos
        unfold posV at h2
        rw [List.all_eq_true] at h2
        have := of_decide_eq_true (h2 z hz')
        omega
      exact leaf2 (.tup [.sl false false (mS (Sp.sortV (l.map fun y => y.take n))), I 0]) ⟨⟨mS_bnd, fun h => h, fun h => h, rfl⟩, rfl, trivial⟩ ⟨rfl, .inr (.inr ⟨hok, by rw [← hpure]; exact hnp, _, hF, by omega, hb390, rfl⟩)⟩
end Go.Proofs.Ytipfjfmdjmaflaa
