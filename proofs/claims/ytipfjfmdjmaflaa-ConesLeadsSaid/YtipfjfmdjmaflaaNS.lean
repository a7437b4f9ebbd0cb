/- Contracts: families, and how many there are. -/
import Derived.Test.YtipfjfmdjmaflaaNR
namespace Go.Proofs.Ytipfjfmdjmaflaa
open Go.Abs AVal
set_option linter.unusedSimpArgs false
attribute [local go_sem] W_skip W_keep KQ_canon canon Fr.norm W_seq W_block W_scope W_exit W_ret W_ops W_draw KQ_nil KQ_norm_seq KQ_exit_seq KQ_ret_seq KQ_norm_block KQ_ret_block KQ_exit_block KQ_exit_loop KQ_ret_loop O_nil O_cons S_call S_mv SE_mv SD_mv S_pick SE_pick SD_pick S_bin SE_bin SD_bin S_eqb SE_eqb SD_eqb S_eqv SE_eqv SD_eqv S_eqnil SE_eqnil SD_eqnil S_un SE_un SD_un S_conv SE_conv SD_conv S_mkfn SE_mkfn SD_mkfn S_load SE_load SD_load S_nilck SE_nilck SD_nilck S_slS SE_slS SD_slS S_slP SE_slP SD_slP S_fldA SE_fldA SD_fldA S_fld SE_fld SD_fld S_ixS SE_ixS SD_ixS S_ixP SE_ixP SD_ixP S_ixV SE_ixV SD_ixV S_ixStr SE_ixStr SD_ixStr S_ext SE_ext SD_ext S_len SE_len SD_len S_lenStr SE_lenStr SD_lenStr S_lenc SE_lenc SD_lenc S_mn SE_mn SD_mn S_mx SE_mx SD_mx S_build SE_build SD_build S_alloc SD_alloc S_box SD_box S_bslice SD_bslice S_mksl SD_mksl S_store SD_store S_append SD_append S_copy SD_copy S_clr SD_clr S_mlen SE_mlen SD_mlen S_mget SE_mget SD_mget S_mval SE_mval SD_mval S_mentry SE_mentry SD_mentry S_mkmap SD_mkmap S_mset SD_mset S_mrange SD_mrange S_mnext mlenA mgetA mvalA mentryA msetA mrangeA cells_mp isCell_mp cellsOk_mp aq_some aa_some al_some alA_some aqd_some aad_some ald_some ape_some D_done D_both D_early D_step SE_call SD_call IOpd.ev Fr.get Fr.put Fr.putd entryFr pickA binA binI isSh shI eqbA eqvA ints ints_mI Option.map_some eqnilA unA convA loadA nilckA intA slSA slPA fldAA fldVA ixSA ixPA ixVA ixStrA extA lenA lenStrA mnA mxA AVal.fits fillA fillOk buildA opa srcA appA stoA copA clrA rdFree zeros List.length_nil List.length_cons List.length_map List.map_cons List.map_nil Option.map_some Option.map_none if_true if_false ite_true ite_false true_and and_true and_self implies_true forall_const true_implies Bool.false_eq_true Bool.not_true Bool.not_false decide_eq_true_eq decide_eq_false_iff_not eq_self List.getElem?_cons_zero List.getElem?_cons_succ List.getElem?_nil List.set_cons_zero List.set_cons_succ List.nil_append List.cons_append List.append_nil List.replicate_zero List.replicate_succ Nat.zero_add false_implies rng_lt rng_end rng_get cells_I cells_B cells_sl cut_one Int.toNat_natCast Int.natCast_nonneg List.headD_cons Int.lt_irrefl not_false_eq_true decide_false decide_true mI_length mI_cells mI_sz mI_isCell mI_mid mI_append mI_take mI_drop cells_val cells_own cells_agg isCell_I isCell_B isCell_nil isCell_sl isCell_own isCell_ptr isCell_fn isCell_rp isCell_yld cellsOk_I cellsOk_B cellsOk_nil cellsOk_sl cellsOk_own cellsOk_ptr cellsOk_fn cellsOk_rp cellsOk_yld cellsOk_agg cells_nil cells_ptr cells_fn cells_rp List.all_cons List.all_nil Bool.and_true Nat.mul_one Nat.zero_mul Nat.one_mul List.take_zero List.take_nil List.drop_nil List.drop_zero List.not_mem_nil Nat.le_refl Nat.zero_le mS_length mS_cells mS_sz mS_isCell mS_mid mS_append mS_take mS_drop cells_sI isCell_sI cellsOk_sI sI_eq succ_le_self' List.take_succ_cons List.drop_succ_cons List.take_length beq_self_eq_true List.mem_cons or_false forall_eq mI_put mI_rep O_guard' D_earlyG' D_stepG' W_cond' G_tt G_tf G_ft G_ff GE_tt GE_tf GE_ft GE_ff GS_tt GS_tf GS_ft GS_ff G_u GE_u GS_u IC_t IC_f xft xff xtt xtf z00 z20 z22 z02 zz tn0
/-! ### Plain: what the search finds. -/
theorem hasK_iff {es : List Ent} {y : List Int} : hasK es y = true ↔ y ∈ es.map (·.1) := by
  unfold hasK; rw [List.any_eq_true, List.mem_map]
  exact ⟨fun ⟨e, he, h⟩ => ⟨e, he, by simpa using h⟩, fun ⟨e, he, h⟩ => ⟨e, he, by simpa using h⟩⟩
theorem hasK_app {es t : List Ent} {y : List Int} (h : hasK es y = true) : hasK (es ++ t) y = true := by
  rw [hasK_iff] at h ⊢; rw [List.map_append]; exact List.mem_append_left _ h
theorem addE_has (Y : List Int) (d : Nat) (es : List Ent) (y : List Int) : hasK (addE Y d es y) y = true := by
  unfold addE
  split
  · assumption
  · rw [hasK_iff]; simp
theorem foldE_has {Y : List Int} {d : Nat} : ∀ {l : List (List Int)} {es : List Ent} {y : List Int}, y ∈ l → hasK (l.foldl (addE Y d) es) y = true
  | z :: l, es, y, h => by
    rw [List.foldl_cons]
    rcases List.mem_cons.1 h with rfl | h
    · obtain ⟨t, ht⟩ := foldE_pre Y d l (addE Y d es y)
      rw [ht]; exact hasK_app (addE_has Y d es y)
    · exact foldE_has h
theorem foldE_nd {Y : List Int} {d : Nat} : ∀ {l : List (List Int)} {es : List Ent}, (es.map (·.1)).Nodup → ((l.foldl (addE Y d) es).map (·.1)).Nodup
  | [], _, h => h
  | y :: l, es, h => by
    rw [List.foldl_cons]
    refine foldE_nd ?_
    unfold addE
    split
    · exact h
    · rename_i hn
      have hn : y ∉ es.map (·.1) := fun hm => hn (hasK_iff.2 hm)
      rw [List.map_append]
      refine List.nodup_append.2 ⟨h, by simp, fun a ha b hb => ?_⟩
      simp at hb; subst hb
      exact fun e => hn (e ▸ ha)
/-- What is new came from here. -/
theorem foldE_new {Y : List Int} {d : Nat} : ∀ {l : List (List Int)} {es : List Ent} {e : Ent}, e ∈ l.foldl (addE Y d) es → e ∈ es ∨ e.1 ∈ l ∧ e.2 = (Y, d + 1)
  | [], _, _, h => .inl h
  | y :: l, es, e, h => by
    rw [List.foldl_cons] at h
    rcases foldE_new h with h | ⟨h1, h2⟩
    · unfold addE at h
      split at h
      · exact .inl h
      · rcases List.mem_append.1 h with h | h
        · exact .inl h
        · simp at h; subst h; exact .inr ⟨by simp, rfl⟩
    · exact .inr ⟨by simp [h1], h2⟩
section
variable {bs : List (List Int)} {X : List Int} {st : List Int → Bool} {es : List Ent} {i : Nat}
theorem Sr.nd (h : Sr bs X st es i) : (es.map (·.1)).Nodup := by
  induction h with
  | start => simp
  | step h hi hs ih => exact foldE_nd ih
theorem Sr.first (h : Sr bs X st es i) : es[0]? = some (X, X, 0) := by
  induction h with
  | start => rfl
  | step h hi hs ih =>
    obtain ⟨t, ht⟩ := foldE_pre _ _ (nearL _ bs) _
    rw [ht, List.getElem?_append_left (List.getElem?_eq_some_iff.1 ih).1]; exact ih
/-- Whoever has been asked has all neighbours there. -/
theorem Sr.closed (h : Sr bs X st es i) : ∀ j, j < i → ∀ Y f d, es[j]? = some (Y, f, d) → ∀ y ∈ nearL Y bs, hasK es y = true := by
  induction h with
  | start => intro j hj; omega
  | @step es i Y0 f0 d0 h hi hs ih =>
    intro j hj Y f d hY y hy
    obtain ⟨t, ht⟩ := foldE_pre Y0 d0 (nearL Y0 bs) es
    have hil := (List.getElem?_eq_some_iff.1 hi).1
    by_cases hji : j < i
    · rw [ht, List.getElem?_append_left (by omega)] at hY
      rw [ht]; exact hasK_app (ih j hji Y f d hY y hy)
    · obtain rfl : j = i := by omega
      rw [ht, List.getElem?_append_left (by omega), hi] at hY
      cases hY
      exact foldE_has hy
theorem Sr.ind {P : List Int → Prop} (h : Sr bs X st es i) (h0 : P X) (hs : ∀ Y y, P Y → y ∈ nearL Y bs → P y) : ∀ e ∈ es, P e.1 := by
  induction h with
  | start => intro e he; simp at he; subst he; exact h0
  | step h hi _ ih =>
    intro e he
    rcases foldE_new he with he | ⟨he, -⟩
    · exact ih e he
    · exact hs _ _ (ih _ (List.mem_of_getElem? hi)) he
end
theorem mem_near {Y y : List Int} {bs : List (List Int)} : y ∈ nearL Y bs ↔ ∃ m ∈ bs, y = plusV 1 Y m ∧ posV y = true := by
  unfold nearL
  rw [List.mem_filter, List.mem_map]
  constructor
  · rintro ⟨⟨m, hm, rfl⟩, hp⟩; exact ⟨m, hm, rfl, hp⟩
  · rintro ⟨m, hm, rfl, hp⟩; exact ⟨⟨m, hm, rfl⟩, hp⟩
section
variable {a : List (List Int)} {bs : List (List Int)} {X : List Int} {st : List Int → Bool} {es : List Ent} {i : Nat}
theorem Sr.fam (hm : Sp.mat a = true) (hB : IsB (a.map Sp.pad) (a.getD 0 []).length bs) (hX : X.length = 4) (hXp : ∀ j, (a.getD 0 []).length ≤ j → X.getD j 0 = 0) (hX0 : posV X = true) (h : Sr bs X st es i) : ∀ e ∈ es, Sp.Fam (a.map Sp.pad) (a.getD 0 []).length X e.1 :=
  h.ind (Sp.Fam.self hX hXp hX0) fun Y y hY hy => by
    obtain ⟨m, hm', rfl, hp⟩ := mem_near.1 hy
    exact hY.step hX ((Sp.mem_bs hm hB).1 hm') hp
/-- All asked: all of the family is there. -/
theorem Sr.all (hm : Sp.mat a = true) (hB : IsB (a.map Sp.pad) (a.getD 0 []).length bs) (hX : X.length = 4) (hXp : ∀ j, (a.getD 0 []).length ≤ j → X.getD j 0 = 0) (hX0 : posV X = true) (h : Sr bs X st es es.length) (Y : List Int) : Y ∈ es.map (·.1) ↔ Sp.Fam (a.map Sp.pad) (a.getD 0 []).length X Y := by
  constructor
  · intro hy
    obtain ⟨e, he, rfl⟩ := List.mem_map.1 hy
    exact h.fam hm hB hX hXp hX0 e he
  · intro hF
    refine Sp.fam_ind hm hX hXp hX0 (P := fun Y => Y ∈ es.map (·.1)) (List.mem_map.2 ⟨_, List.mem_of_getElem? h.first, rfl⟩) (fun Z m _ hZ hM hp => ?_) hF
    obtain ⟨e, he, rfl⟩ := List.mem_map.1 hZ
    obtain ⟨j, hj⟩ := List.getElem?_of_mem he
    exact hasK_iff.1 (h.closed j (List.getElem?_eq_some_iff.1 hj).1 e.1 e.2.1 e.2.2 hj _ (mem_near.2 ⟨m, (Sp.mem_bs hm hB).2 hM, rfl, hp⟩))
end
/-! ### The answers of Count and Family. -/
theorem box_gen (K : Nat) {l : List (List Int)} (hd : l.Nodup) (hl : ∀ y ∈ l, y.length = 4 ∧ ∀ z ∈ y, 0 ≤ z ∧ z < K) : l.length ≤ K * (K * (K * K)) := by
  have four : ∀ y ∈ l, ∃ a b c d : Nat, y = [(a : Int), (b : Int), (c : Int), (d : Int)] ∧ a < K ∧ b < K ∧ c < K ∧ d < K := fun y hy => by
    obtain ⟨h4, hz⟩ := hl y hy
    rcases y with _ | ⟨a, _ | ⟨b, _ | ⟨c, _ | ⟨d, _ | ⟨e, y⟩⟩⟩⟩⟩ <;> simp at h4
    have ha := hz a (by simp)
    have hb := hz b (by simp)
    have hc := hz c (by simp)
    have hd := hz d (by simp)
    refine ⟨a.toNat, b.toNat, c.toNat, d.toNat, ?_, by omega, by omega, by omega, by omega⟩
    rw [Int.toNat_of_nonneg ha.1, Int.toNat_of_nonneg hb.1, Int.toNat_of_nonneg hc.1, Int.toNat_of_nonneg hd.1]
  have step : ∀ {a N x : Nat}, a < K → x < N → a + K * x < K * N := fun {a N x} ha hx => by
    have : K * (x + 1) ≤ K * N := Nat.mul_le_mul_left K hx
    rw [Nat.mul_add] at this; omega
  have inj : ∀ {a b x y : Nat}, a < K → b < K → a + K * x = b + K * y → a = b ∧ x = y := fun {a b x y} ha hb h => by
    have h1 := congrArg (· % K) h
    have h2 := congrArg (· / K) h
    simp only [Nat.add_mul_mod_self_left, Nat.mod_eq_of_lt ha, Nat.mod_eq_of_lt hb] at h1
    have hK : 0 < K := by omega
    simp only [Nat.add_mul_div_left _ _ hK, Nat.div_eq_of_lt ha, Nat.div_eq_of_lt hb] at h2
    exact ⟨h1, by omega⟩
  refine Sp.count_le (f := fun y => (y.getD 0 0).toNat + K * ((y.getD 1 0).toNat + K * ((y.getD 2 0).toNat + K * (y.getD 3 0).toNat))) hd (fun y hy => ?_) fun y hy w hw e => ?_
  · obtain ⟨a, b, c, d, rfl, ha, hb, hc, hd⟩ := four y hy
    exact step ha (step hb (step hc hd))
  · obtain ⟨a, b, c, d, rfl, ha, hb, hc, hd⟩ := four y hy
    obtain ⟨a', b', c', d', rfl, ha', hb', hc', hd'⟩ := four w hw
    obtain ⟨h1, e⟩ := inj ha ha' e
    obtain ⟨h2, e⟩ := inj hb hb' e
    obtain ⟨h3, e⟩ := inj hc hc' e
    have e : d = d' := e
    rw [h1, h2, h3, e]
theorem vecOk_spec {a : List (List Int)} {x : List Int} {most : Int} (h0 : 0 ≤ most) (h : Sp.vecOk a x 0 most = true) : Sp.mat a = true ∧ x.length = (a.getD 0 []).length ∧ (Sp.pad x).length = 4 ∧ Sp.inB most (Sp.pad x) ∧ posV (Sp.pad x) = true ∧ Sp.inB most x ∧ (∀ j, (a.getD 0 []).length ≤ j → (Sp.pad x).getD j 0 = 0) ∧ posV x = true := by
  unfold Sp.vecOk at h
  simp only [Bool.and_eq_true, decide_eq_true_eq] at h
  obtain ⟨hm, xl, xn⟩ := h
  obtain ⟨-, -, n1, n4⟩ := mat_rows hm
  have hx : ∀ z ∈ x, 0 ≤ z ∧ z ≤ most := by
    unfold Sp.numbers at xn
    rw [List.all_eq_true] at xn
    intro z hz
    have := xn z hz
    simp only [Bool.and_eq_true, decide_eq_true_eq] at this
    exact this
  have bx : Sp.inB most x := fun z hz => by have := hx z hz; omega
  have px : posV x = true := by
    unfold posV
    rw [List.all_eq_true]
    exact fun z hz => decide_eq_true (hx z hz).1
  exact ⟨hm, xl, Sp.pad_len (by omega), (Sp.inB_pad h0).2 bx, by rw [Sp.posV_pad]; exact px, bx, fun j hj => Sp.pad_getD xl hj, px⟩
end Go.Proofs.Ytipfjfmdjmaflaa
