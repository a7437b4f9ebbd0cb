/- Contracts: the reference's Family. -/
import Derived.Test.YtipfjfmdjmaflaaNG
namespace Go.Abs.Sp
open Go.Abs.Cir Go.Proofs.Ytipfjfmdjmaflaa
/-- Vectors with numbers from 0 to 390 are not many. -/
theorem box_len {n : Nat} (hn : n ≤ 4) {l : List (List Int)} (hd : l.Nodup) (hl : ∀ y ∈ l, y.length = n ∧ ∀ z ∈ y, 0 ≤ z ∧ z ≤ 390) : l.length ≤ 23372600161 := by
  have hb : ∀ y ∈ l, inB 195 (y.map fun z => z - 195) := fun y hy z hz => by
    obtain ⟨w, hw, rfl⟩ := List.mem_map.1 hz
    have := (hl y hy).2 w hw
    omega
  have hp : (2 * ((195 : Nat) : Int) + 1) ^ n ≤ 23372600161 := by
    have : ∀ n < 5, (2 * ((195 : Nat) : Int) + 1) ^ n ≤ 23372600161 := by decide
    exact this n (by omega)
  refine count_le (f := fun y => (odo 195 (y.map fun z => z - 195)).toNat) hd (fun y hy => ?_) fun y hy w hw e => ?_
  · have := odo_lt 195 n (v := y.map fun z => z - 195) (by rw [List.length_map]; exact (hl y hy).1) (hb y hy)
    omega
  · have h1 := odo_lt 195 n (v := y.map fun z => z - 195) (by rw [List.length_map]; exact (hl y hy).1) (hb y hy)
    have h2 := odo_lt 195 n (v := w.map fun z => z - 195) (by rw [List.length_map]; exact (hl w hw).1) (hb w hw)
    have h3 := odo_inj 195 n (by rw [List.length_map]; exact (hl y hy).1) (by rw [List.length_map]; exact (hl w hw).1) (hb y hy) (hb w hw) (by omega)
    have h4 := congrArg (List.map fun z => z + 195) h3
    rw [List.map_map, List.map_map] at h4
    have e1 : ((fun z : Int => z + 195) ∘ fun z => z - 195) = id := by funext z; simp only [Function.comp, id]; omega
    rw [e1, List.map_id, List.map_id] at h4
    exact h4
end Go.Abs.Sp
namespace Go.Proofs.Ytipfjfmdjmaflaa
open Go.Abs AVal
set_option linter.unusedSimpArgs false
attribute [local go_sem] W_skip W_keep KQ_canon canon Fr.norm W_seq W_block W_scope W_exit W_ret W_ops W_draw KQ_nil KQ_norm_seq KQ_exit_seq KQ_ret_seq KQ_norm_block KQ_ret_block KQ_exit_block KQ_exit_loop KQ_ret_loop O_nil O_cons S_call S_mv SE_mv SD_mv S_pick SE_pick SD_pick S_bin SE_bin SD_bin S_eqb SE_eqb SD_eqb S_eqv SE_eqv SD_eqv S_eqnil SE_eqnil SD_eqnil S_un SE_un SD_un S_conv SE_conv SD_conv S_mkfn SE_mkfn SD_mkfn S_load SE_load SD_load S_nilck SE_nilck SD_nilck S_slS SE_slS SD_slS S_slP SE_slP SD_slP S_fldA SE_fldA SD_fldA S_fld SE_fld SD_fld S_ixS SE_ixS SD_ixS S_ixP SE_ixP SD_ixP S_ixV SE_ixV SD_ixV S_ixStr SE_ixStr SD_ixStr S_ext SE_ext SD_ext S_len SE_len SD_len S_lenStr SE_lenStr SD_lenStr S_lenc SE_lenc SD_lenc S_mn SE_mn SD_mn S_mx SE_mx SD_mx S_build SE_build SD_build S_alloc SD_alloc S_box SD_box S_bslice SD_bslice S_mksl SD_mksl S_store SD_store S_append SD_append S_copy SD_copy S_clr SD_clr S_mlen SE_mlen SD_mlen S_mget SE_mget SD_mget S_mval SE_mval SD_mval S_mentry SE_mentry SD_mentry S_mkmap SD_mkmap S_mset SD_mset S_mrange SD_mrange S_mnext mlenA mgetA mvalA mentryA msetA mrangeA cells_mp isCell_mp cellsOk_mp aq_some aa_some al_some alA_some aqd_some aad_some ald_some ape_some D_done D_both D_early D_step SE_call SD_call IOpd.ev Fr.get Fr.put Fr.putd entryFr pickA binA binI isSh shI eqbA eqvA ints ints_mI Option.map_some eqnilA unA convA loadA nilckA intA slSA slPA fldAA fldVA ixSA ixPA ixVA ixStrA extA lenA lenStrA mnA mxA AVal.fits fillA fillOk buildA opa srcA appA stoA copA clrA rdFree zeros List.length_nil List.length_cons List.length_map List.map_cons List.map_nil Option.map_some Option.map_none if_true if_false ite_true ite_false true_and and_true and_self implies_true forall_const true_implies Bool.false_eq_true Bool.not_true Bool.not_false decide_eq_true_eq decide_eq_false_iff_not eq_self List.getElem?_cons_zero List.getElem?_cons_succ List.getElem?_nil List.set_cons_zero List.set_cons_succ List.nil_append List.cons_append List.append_nil List.replicate_zero List.replicate_succ Nat.zero_add false_implies rng_lt rng_end rng_get cells_I cells_B cells_sl cut_one Int.toNat_natCast Int.natCast_nonneg List.headD_cons Int.lt_irrefl not_false_eq_true decide_false decide_true mI_length mI_cells mI_sz mI_isCell mI_mid mI_append mI_take mI_drop cells_val cells_own cells_agg isCell_I isCell_B isCell_nil isCell_sl isCell_own isCell_ptr isCell_fn isCell_rp isCell_yld cellsOk_I cellsOk_B cellsOk_nil cellsOk_sl cellsOk_own cellsOk_ptr cellsOk_fn cellsOk_rp cellsOk_yld cellsOk_agg cells_nil cells_ptr cells_fn cells_rp List.all_cons List.all_nil Bool.and_true Nat.mul_one Nat.zero_mul Nat.one_mul List.take_zero List.take_nil List.drop_nil List.drop_zero List.not_mem_nil Nat.le_refl Nat.zero_le mS_length mS_cells mS_sz mS_isCell mS_mid mS_append mS_take mS_drop cells_sI isCell_sI cellsOk_sI sI_eq succ_le_self' List.take_succ_cons List.drop_succ_cons List.take_length beq_self_eq_true List.mem_cons or_false forall_eq mI_put mI_rep O_guard' D_earlyG' D_stepG' W_cond' G_tt G_tf G_ft G_ff GE_tt GE_tf GE_ft GE_ff GS_tt GS_tf GS_ft GS_ff G_u GE_u GS_u IC_t IC_f xft xff xtt xtf z00 z20 z22 z02 zz tn0
/-- Those reached so far. -/
structure Bfs (a : List (List Int)) (n : Nat) (x : List Int) (L q o : List (List Int)) : Prop where
  nd : q.Nodup
  len : ∀ y ∈ q, y.length = n
  fam : ∀ y ∈ q, Sp.Fam (a.map Sp.pad) n (Sp.pad x) (Sp.pad y)
  st : x ∈ q
  same : ∀ y, y ∈ o ↔ y ∈ q
  asc : o.Pairwise fun a b => Sp.cmpL a b < 0
  bnd : ∀ y ∈ q, ∀ z ∈ y, 0 ≤ z ∧ z ≤ 390
  ol : o.length = q.length
/-- From the i-th on, it is still to be seen where the moves lead. -/
def Done (L q : List (List Int)) (i j : Nat) : Prop := ∀ k, (k < i → ∀ b ∈ L, posV (plusV 1 (q.getD k []) b) = true → plusV 1 (q.getD k []) b ∈ q) ∧ (k = i → ∀ b ∈ L.take j, posV (plusV 1 (q.getD k []) b) = true → plusV 1 (q.getD k []) b ∈ q)
theorem Bfs.start {a : List (List Int)} {n : Nat} {x : List Int} {L : List (List Int)} (xl : x.length = n) (n4 : n ≤ 4) (bx : Sp.inB 6 x) (px : posV x = true) : Bfs a n x L [x] [x] where
  nd := by simp
  len := by simp [xl]
  fam := fun y hy => by
    simp at hy; subst hy
    exact Sp.Fam.self (Sp.pad_len (by omega)) (fun j hj => Sp.pad_getD xl hj) (by rw [Sp.posV_pad]; exact px)
  st := by simp
  same := fun y => Iff.rfl
  asc := by simp
  bnd := fun y hy z hz => by
    simp at hy; subst hy
    have := bx z hz
    unfold posV at px
    rw [List.all_eq_true] at px
    have := of_decide_eq_true (px z hz)
    omega
  ol := rfl
theorem Bfs.few {a : List (List Int)} {n : Nat} {x : List Int} {L q o : List (List Int)} (h : Bfs a n x L q o) (n4 : n ≤ 4) : q.length ≤ 23372600161 := Sp.box_len n4 h.nd fun y hy => ⟨h.len y hy, h.bnd y hy⟩
theorem Bfs.add {a : List (List Int)} {n : Nat} {x : List Int} {L q o o' : List (List Int)} (hm : Sp.mat a = true) (hn : (a.getD 0 []).length = n) (xl : x.length = n) (bx : Sp.inB 6 x) (px : posV x = true) (hnp : (Sp.basL a).any posV = false) (hL : Sp.basL a = L) (h : Bfs a n x L q o)
    {w b : List Int} (hw : w ∈ q) (hb : b ∈ L) (hp : posV (plusV 1 w b) = true) (hni : plusV 1 w b ∉ q) (hs : o'.Pairwise fun a b => Sp.cmpL a b < 0) (hmem : ∀ y, y ∈ o' ↔ y ∈ o ∨ y = plusV 1 w b) (hl : o'.length = o.length + 1) : Bfs a n x L (q ++ [plusV 1 w b]) o' := by
  obtain ⟨r1, r2, n1, n4⟩ := mat_rows hm
  rw [hn] at n1 n4
  subst hL
  obtain ⟨bl, bM⟩ := (Sp.mem_basL hm).1 hb
  rw [hn] at bl bM
  have wl := h.len w hw
  have yl : (plusV 1 w b).length = n := by unfold plusV; rw [List.length_zipWith]; omega
  have Xl : (Sp.pad x).length = 4 := Sp.pad_len (by omega)
  have Xp : ∀ j, n ≤ j → (Sp.pad x).getD j 0 = 0 := fun j hj => Sp.pad_getD xl hj
  have yF : Sp.Fam (a.map Sp.pad) n (Sp.pad x) (Sp.pad (plusV 1 w b)) := by
    rw [Sp.pad_plus wl bl]
    exact Sp.Fam.step Xl (h.fam w hw) bM (by rw [← Sp.pad_plus wl bl, Sp.posV_pad]; exact hp)
  have hnp' : ∀ m, Sp.Mini (a.map Sp.pad) (a.getD 0 []).length m → posV m = false := fun m hM => by
    have e := Sp.take_pad (by omega) hM.mv.len hM.mv.pad
    have h1 := List.any_eq_false.1 hnp (m.take (a.getD 0 []).length) ((Sp.mem_basL hm).2 ⟨by rw [List.length_take, hM.mv.len]; omega, by rw [e]; exact hM⟩)
    rw [← Sp.posV_pad, e] at h1
    simpa using h1
  have yB := Sp.fam_bound hm Xl (by rw [hn]; exact Xp) (by rw [Sp.posV_pad]; exact px) (N := 6) (by decide) ((Sp.inB_pad (by decide)).2 bx) hnp' (by rw [hn]; exact yF)
  refine ⟨?_, fun y hy => ?_, fun y hy => ?_, List.mem_append_left _ h.st, fun y => ?_, hs, fun y hy => ?_, by rw [hl, h.ol, List.length_append, List.length_singleton]⟩
  · rw [List.nodup_append]
    exact ⟨h.nd, by simp, fun c hc d hd e => by simp at hd; subst hd; exact hni (by rw [← e]; exact hc)⟩
  · rcases List.mem_append.1 hy with hy | hy
    · exact h.len y hy
    · simp at hy; rw [hy]; exact yl
  · rcases List.mem_append.1 hy with hy | hy
    · exact h.fam y hy
    · simp at hy; rw [hy]; exact yF
  · rw [hmem, h.same, List.mem_append, List.mem_singleton]
  · rcases List.mem_append.1 hy with hy | hy
    · exact h.bnd y hy
    · simp at hy
      intro z hz
      have h1 := (Sp.inB_pad (by decide)).1 yB z (by rw [← hy]; exact hz)
      unfold posV at hp
      rw [List.all_eq_true] at hp
      have := of_decide_eq_true (hp z (by rw [← hy]; exact hz))
      omega
/-- All are reached. -/
theorem Bfs.all {a : List (List Int)} {n : Nat} {x : List Int} {L q o : List (List Int)} (hm : Sp.mat a = true) (hn : (a.getD 0 []).length = n) (xl : x.length = n) (px : posV x = true) (hL : Sp.basL a = L) (h : Bfs a n x L q o) (hd : Done L q q.length 0) (y : List Int) : y ∈ o ↔ y.length = n ∧ Sp.Fam (a.map Sp.pad) n (Sp.pad x) (Sp.pad y) := by
  obtain ⟨r1, r2, n1, n4⟩ := mat_rows hm
  rw [hn] at n1 n4
  subst hL
  have Xl : (Sp.pad x).length = 4 := Sp.pad_len (by omega)
  have Xp : ∀ j, n ≤ j → (Sp.pad x).getD j 0 = 0 := fun j hj => Sp.pad_getD xl hj
  rw [h.same]
  constructor
  · intro hy; exact ⟨h.len y hy, h.fam y hy⟩
  · rintro ⟨yl, hF⟩
    have key := Sp.fam_ind hm Xl (by rw [hn]; exact Xp) (by rw [Sp.posV_pad]; exact px) (P := fun Y => Y.take n ∈ q) (by rw [Sp.pad_take xl]; exact h.st) (fun Z m hZ hq hM hp => ?_) (Y := Sp.pad y) (by rw [hn]; exact hF)
    · rwa [Sp.pad_take yl] at key
    · have e := Sp.take_pad (by omega) hM.mv.len hM.mv.pad
      rw [hn] at e hZ
      have eZ := Sp.take_pad n4 hZ.len hZ.pad
      have ml : (m.take n).length = n := by rw [List.length_take, hM.mv.len]; omega
      have hb : m.take n ∈ Sp.basL a := (Sp.mem_basL hm).2 ⟨by rw [ml, hn], by rw [e]; exact hM⟩
      obtain ⟨k, hk, hkZ⟩ := List.getElem_of_mem hq
      have gk : q.getD k [] = Z.take n := by rw [List.getD_eq_getElem?_getD, List.getElem?_eq_getElem hk]; exact hkZ
      have Zl : (Z.take n).length = n := by rw [List.length_take, hZ.len]; omega
      have pe : Sp.pad (plusV 1 (Z.take n) (m.take n)) = plusV 1 Z m := by rw [Sp.pad_plus Zl ml, eZ, e]
      have := (hd k).1 hk (m.take n) hb (by rw [gk, ← Sp.posV_pad, pe]; exact hp)
      rw [gk] at this
      have e2 : (plusV 1 Z m).take n = plusV 1 (Z.take n) (m.take n) := by
        rw [← pe, Sp.pad_take (by unfold plusV; rw [List.length_zipWith]; omega)]
      show (plusV 1 Z m).take n ∈ q
      rw [e2]; exact this
set_option maxRecDepth 20000 in
set_option maxHeartbeats 4000000 in
theorem s61 (a : List (List Int)) (x : List Int) (ha : ∀ l ∈ a, l.length < 9223372036854775808) (hl : a.length < 9223372036854775808) (hm : Sp.mat a = true) (n : Nat) (hn : (a.getD 0 []).length = n) (xl : x.length = n) (bx : Sp.inB 6 x) (px : posV x = true) (hnp : (Sp.basL a).any posV = false) :
    Abs.Spec Try.prog 61 [.sl false false (mS a), .sl false false (mI x)] [] fun v H' => H' = [] ∧ ∃ F : List (List Int), F.Pairwise (fun a b => Sp.cmpL a b < 0) ∧ (∀ y, y ∈ F ↔ y.length = n ∧ Sp.Fam (a.map Sp.pad) n (Sp.pad x) (Sp.pad y)) ∧ (∀ y ∈ F, ∀ z ∈ y, 0 ≤ z ∧ z ≤ 390) ∧ F.length ≤ 23372600161 ∧ v = .sl false false (mS F) := by
  refine Abs.Spec.walk mixed fn61 nn61 t61 q61 nt61 (by simp) ?_
  obtain ⟨r1, r2, n1, n4⟩ := mat_rows hm
  rw [hn] at n1 n4
  have h50 := C50_ok a ha hl hm
  obtain ⟨L, hL⟩ : ∃ L, Sp.basL a = L := ⟨_, rfl⟩
  rw [hL] at h50
  have hLl : ∀ y ∈ L, y.length = n := fun y hy => by rw [← hL] at hy; rw [← hn]; exact ((Sp.mem_basL hm).1 hy).1
  have hLb : ∀ y ∈ L, Sp.inB 16 y := fun y hy => by rw [← hL] at hy; exact Sp.ans_num hm (Sp.basB_is _ _) hy
  have hLn : L.length ≤ 400 := by rw [← hL]; exact Sp.ans_len hm (Sp.basB_is _ _)
  simp only [w61, go_sem, Nat.reduceEqDiff, Nat.reduceAdd, Nat.reduceLT, Nat.reduceLeDiff, reduceIte, reduceCtorEq]
  refine CallK.pure (liftV h50 (by simp [bndL, AVal.bnd, mS_bnd]) (by simp [AVal.bnd, mS_bnd]) _) ?_
  simp only [go_sem, Nat.reduceEqDiff, Nat.reduceAdd, Nat.reduceLT, Nat.reduceLeDiff, reduceIte, reduceCtorEq]
  refine W_loop (fun s : { s : Nat × List (List Int) × List (List Int) // Bfs a n x L s.2.1 s.2.2 ∧ s.1 ≤ s.2.1.length ∧ Done L s.2.1 s.1 0 } => ([(5, .sl false false (mS L)), (6, .own 1 0 s.1.2.2.length s.1.2.2.length 1), (7, .own 0 0 s.1.2.1.length s.1.2.1.length 1), (8, I s.1.1)], [.cells (mS s.1.2.1), .cells (mS s.1.2.2)])) (fun s => 23372600161 - s.1.1)
    ⟨(0, [x], [x]), Bfs.start xl n4 bx px, Nat.zero_le _, fun k => ⟨fun h => by dsimp only at h; omega, fun h b hb => by simp at hb⟩⟩ [some 1, some 0] (Wk.mk0 rfl (by simp [imgs, Blk.alive]) (by simp [hle, csle, mS, sI, bndL, AVal.bnd, mI_bnd]) (by simp [fle, vle, Fr.get, mS_bnd])) ?_
  rintro ⟨⟨i, q, o⟩, hq, hi, hd⟩
  dsimp only at hq hi hd ⊢
  have qf := hq.few n4
  have qo := hq.ol
  by_cases hiq : i < q.length
  · have d1 : decide ((i : Int) < q.length) = true := decide_eq_true (by omega)
    simp only [w61L0, d1, go_sem, Nat.reduceEqDiff, Nat.reduceAdd, Nat.reduceLT, Nat.reduceLeDiff, reduceIte, reduceCtorEq]
    refine W_loop (fun s : { s : Nat × List (List Int) × List (List Int) // Bfs a n x L s.2.1 s.2.2 ∧ i < s.2.1.length ∧ s.1 ≤ L.length ∧ Done L s.2.1 i s.1 } => ([(5, .sl false false (mS L)), (6, .own 1 0 s.1.2.2.length s.1.2.2.length 1), (7, .own 0 0 s.1.2.1.length s.1.2.1.length 1), (8, I i), (25, .sl false false (mS L)), (26, I L.length), (27, I s.1.1)], [.cells (mS s.1.2.1), .cells (mS s.1.2.2)])) (fun s => L.length - s.1.1)
      ⟨(0, q, o), hq, hiq, Nat.zero_le _, hd⟩ [some 0, some 1] (Wk.mk0 rfl (by simp [imgs, Blk.alive]) (by simp [hle, csle, mS_bnd]) (by simp [fle, vle, Fr.get, mS_bnd])) ?_
    rintro ⟨⟨j, q, o⟩, hq, hiq, hj, hd⟩
    dsimp only at hq hiq hj hd ⊢
    have qf := hq.few n4
    have qo := hq.ol
    by_cases hjL : j < L.length
    · have e1 : decide ((j : Int) < L.length) = true := decide_eq_true (by omega)
      have e1' : (j : Int) < L.length := by omega
      have e2' : (i : Int) < q.length := by omega
      obtain ⟨b, hb⟩ : ∃ b, L.getD j [] = b := ⟨_, rfl⟩
      have gb := mS_getD hjL
      rw [hb] at gb
      have bL : b ∈ L := by rw [← hb]; exact gd_mem' hjL
      obtain ⟨w, hw⟩ : ∃ w, q.getD i [] = w := ⟨_, rfl⟩
      have gw := mS_hd0 hiq
      rw [hw] at gw
      have wq : w ∈ q := by rw [← hw]; exact gd_mem' hiq
      have wl := hq.len w wq
      have wb : Sp.inB 390 w := fun z hz => by have := hq.bnd w wq z hz; omega
      have h79 := s79 w b n n1 n4 wl (hLl b bL) (Sp.inB_mono wb (by decide)) (Sp.inB_mono (hLb b bL) (by decide))
      obtain ⟨y, hy⟩ : ∃ y, plusV 1 w b = y := ⟨_, rfl⟩
      have yb := plus_inB (by rw [wl, hLl b bL]) wb (hLb b bL)
      rw [hy] at h79 yb
      have yl : y.length = n := by rw [← hy]; unfold plusV; rw [List.length_zipWith, wl, hLl b bL, Nat.min_self]
      have hnum := num_posV (Sp.inB_mono yb (by decide))
      have ltk : L.take (j + 1) = L.take j ++ [b] := by
        rw [List.take_add_one, List.getElem?_eq_getElem hjL, ← hb, List.getD_eq_getElem?_getD, List.getElem?_eq_getElem hjL]; rfl
      have ej : IntKind.i64.wrap ((j : Int) + 1) = ((j + 1 : Nat) : Int) := by rw [wrap64 (by omega) (by omega)]; omega
      have qn : ∀ (q' : List (List Int)), (∃ t, q' = q ++ t) → (posV y = true → y ∈ q') → Done L q' i (j + 1) := fun q' ⟨t, ht⟩ hyq k => by
        have sub : ∀ z, z ∈ q → z ∈ q' := fun z hz => by rw [ht]; exact List.mem_append_left _ hz
        have gk : ∀ k, k < q.length → q'.getD k [] = q.getD k [] := fun k hk => by
          rw [ht, List.getD_eq_getElem?_getD, List.getElem?_append_left hk, ← List.getD_eq_getElem?_getD]
        refine ⟨fun hki c hc hp => ?_, fun hki c hc hp => ?_⟩
        · rw [gk k (by omega)] at hp ⊢
          exact sub _ ((hd k).1 hki c hc hp)
        · rw [gk k (by omega)] at hp ⊢
          rw [ltk] at hc
          rcases List.mem_append.1 hc with hc | hc
          · exact sub _ ((hd k).2 hki c hc hp)
          · simp at hc
            subst hki hc
            rw [hw, hy] at hp ⊢
            exact hyq hp
      simp only [w61L1, e1, e1', e2', gb, gw, mS_length, go_sem, Nat.reduceEqDiff, Nat.reduceAdd, Nat.reduceLT, Nat.reduceLeDiff, reduceIte, reduceCtorEq]
      refine ⟨hiq, CallK.pure (liftV h79 (by simp [bndL, AVal.bnd, mI_bnd]) (by simp [AVal.bnd, mI_bnd]) _) ?_⟩
      simp only [go_sem, Nat.reduceEqDiff, Nat.reduceAdd, Nat.reduceLT, Nat.reduceLeDiff, reduceIte, reduceCtorEq]
      refine CallK.pure (liftV (s24 false false y 0 1000000 (by omega)) (by simp [bndL, AVal.bnd, mI_bnd]) rfl _) ?_
      cases hnm : Sp.numbers y 0 1000000 with
      | false =>
        simp only [ej, go_sem, Nat.reduceEqDiff, Nat.reduceAdd, Nat.reduceLT, Nat.reduceLeDiff, reduceIte, reduceCtorEq]
        exact round1 rfl ⟨(j + 1, q, o), hq, hiq, hjL, qn q ⟨[], by simp⟩ (fun hp => by rw [hnum, hp] at hnm; cases hnm)⟩ [some 0, some 1] (by dsimp only; omega) (Wk.mk0 rfl (by simp [imgs, Blk.alive]) (by simp [hle, csle, mS_bnd]) (by simp [fle, vle, Fr.get, mS_bnd]))
      | true =>
        have yp : posV y = true := by rw [← hnum]; exact hnm
        simp only [go_sem, Nat.reduceEqDiff, Nat.reduceAdd, Nat.reduceLT, Nat.reduceLeDiff, reduceIte, reduceCtorEq]
        refine CallK.by (CallV.of_spec (first := []) (cap := []) (s95g (.cells (mS q)) (by simp [blkOk, mS_bnd]) (fun i _ => by simp [blkN, mS_bnd]) (by simp [blkN, mS_bnd]) o y n (fun z hz => hq.len z ((hq.same z).1 hz)) yl n4 hq.asc (by omega))) fun v H' hr => ?_
        rcases hr with ⟨hyo, hv, hH⟩ | ⟨hyo, o', ol', oasc, omem, hv, hH⟩
        · subst hv hH
          simp only [ej, List.getD_cons_zero, List.getD_cons_succ, go_sem, Nat.reduceEqDiff, Nat.reduceAdd, Nat.reduceLT, Nat.reduceLeDiff, reduceIte, reduceCtorEq]
          exact round1 rfl ⟨(j + 1, q, o), hq, hiq, hjL, qn q ⟨[], by simp⟩ (fun _ => (hq.same y).1 hyo)⟩ [some 0, some 1] (by dsimp only; omega) (Wk.mk0 rfl (by simp [imgs, Blk.alive]) (by simp [hle, csle, mS_bnd]) (by simp [fle, vle, Fr.get, mS_bnd]))
        · subst hv hH
          have hq' := hq.add hm hn xl bx px hnp hL wq bL (by rw [hy]; exact yp) (by rw [hy]; exact fun h => hyo ((hq.same y).2 h)) oasc (by rw [hy]; exact omem) ol'
          rw [hy] at hq'
          have nlen : ¬ q.length + 1 ≤ q.length := by omega
          simp only [ej, List.getD_cons_zero, List.getD_cons_succ, mS_length, nlen, go_sem, Nat.reduceEqDiff, Nat.reduceAdd, Nat.reduceLT, Nat.reduceLeDiff, reduceIte, reduceCtorEq]
          refine ⟨by omega, round1 rfl ⟨(j + 1, q ++ [y], o'), hq', by dsimp only; rw [List.length_append]; omega, hjL, qn _ ⟨[y], rfl⟩ (fun _ => by simp)⟩ [some 5, some 3] (by dsimp only; omega) (Wk.mk0 rfl (by simp [imgs, Blk.alive]) (by simp [hle, csle, mS_bnd, ← mS_snoc', bndL, bndL_append, AVal.bnd, mI_bnd]) (by simp [fle, vle, Fr.get, mS_bnd]))⟩
    · have e1 : decide ((j : Int) < L.length) = false := decide_eq_false (by omega)
      obtain rfl : j = L.length := by omega
      have ei : IntKind.i64.wrap ((i : Int) + 1) = ((i + 1 : Nat) : Int) := by rw [wrap64 (by omega) (by omega)]; omega
      simp only [w61L1, w61T2, e1, ei, go_sem, Nat.reduceEqDiff, Nat.reduceAdd, Nat.reduceLT, Nat.reduceLeDiff, reduceIte, reduceCtorEq]
      refine round1 rfl ⟨(i + 1, q, o), hq, hiq, fun k => ⟨fun hk c hc => ?_, fun _ c hc => by simp at hc⟩⟩ [some 0, some 1] (by dsimp only; omega) (Wk.mk0 rfl (by simp [imgs, Blk.alive]) (by simp [hle, csle, mS_bnd]) (by simp [fle, vle, Fr.get, mS_bnd]))
      dsimp only at hk
      by_cases hki : k < i
      · exact (hd k).1 hki c hc
      · exact (hd k).2 (by omega) c (by rw [List.take_length]; exact hc)
  · have d1 : decide ((i : Int) < q.length) = false := decide_eq_false (by omega)
    obtain rfl : i = q.length := by omega
    simp only [w61L0, w61T3, d1, go_sem, Nat.reduceEqDiff, Nat.reduceAdd, Nat.reduceLT, Nat.reduceLeDiff, reduceIte, reduceCtorEq]
    refine leaf (.sl false false (mS o)) (vle_mS rfl (by simp) rfl (List.take_of_length_le (by rw [mS_length]; omega))) ⟨rfl, o, hq.asc, hq.all hm hn xl px hL hd, fun y hy => hq.bnd y ((hq.same y).1 hy), by omega, rfl⟩
end Go.Proofs.Ytipfjfmdjmaflaa
