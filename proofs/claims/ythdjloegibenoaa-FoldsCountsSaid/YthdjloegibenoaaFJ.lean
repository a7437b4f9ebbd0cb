/- Contracts of folds: the first pile with some mountains. -/
import Derived.Test.YthdjloegibenoaaFI
namespace Go.Proofs.Ythdjloegibenoaa
open Go.Abs AVal
set_option linter.unusedSimpArgs false
attribute [local go_sem] W_skip W_keep KQ_canon canon Fr.norm W_seq W_block W_exit W_ret W_ops W_draw KQ_nil KQ_norm_seq KQ_exit_seq KQ_ret_seq KQ_norm_block KQ_ret_block KQ_exit_block KQ_exit_loop KQ_ret_loop O_nil O_cons S_call S_mv SE_mv SD_mv S_pick SE_pick SD_pick S_bin SE_bin SD_bin S_eqb SE_eqb SD_eqb S_eqv SE_eqv SD_eqv S_eqnil SE_eqnil SD_eqnil S_un SE_un SD_un S_conv SE_conv SD_conv S_mkfn SE_mkfn SD_mkfn S_load SE_load SD_load S_nilck SE_nilck SD_nilck S_slS SE_slS SD_slS S_slP SE_slP SD_slP S_fldA SE_fldA SD_fldA S_fld SE_fld SD_fld S_ixS SE_ixS SD_ixS S_ixP SE_ixP SD_ixP S_ixV SE_ixV SD_ixV S_ixStr SE_ixStr SD_ixStr S_ext SE_ext SD_ext S_len SE_len SD_len S_lenStr SE_lenStr SD_lenStr S_lenc SE_lenc SD_lenc S_mn SE_mn SD_mn S_mx SE_mx SD_mx S_build SE_build SD_build S_alloc SD_alloc S_box SD_box S_bslice SD_bslice S_mksl SD_mksl S_store SD_store S_append SD_append S_copy SD_copy S_clr SD_clr aq_some aa_some al_some aqd_some aad_some ald_some ape_some D_done D_both D_early D_step SE_call SD_call IOpd.ev Fr.get Fr.put Fr.putd entryFr pickA binA binI isSh shI eqbA eqvA ints ints_mI Option.map_some eqnilA unA convA loadA nilckA intA slSA slPA fldAA fldVA ixSA ixPA ixVA ixStrA extA lenA lenStrA mnA mxA AVal.fits fillA fillOk buildA opa srcA appA stoA copA clrA rdFree zeros List.length_nil List.length_cons List.length_map List.map_cons List.map_nil Option.map_some Option.map_none if_true if_false ite_true ite_false true_and and_true and_self implies_true forall_const true_implies Bool.false_eq_true Bool.not_true Bool.not_false decide_eq_true_eq decide_eq_false_iff_not eq_self List.getElem?_cons_zero List.getElem?_cons_succ List.getElem?_nil List.set_cons_zero List.set_cons_succ List.nil_append List.cons_append List.append_nil List.replicate_zero List.replicate_succ Nat.zero_add false_implies rng_lt rng_end rng_get cells_I cells_B cells_sl cut_one Int.toNat_natCast Int.natCast_nonneg List.headD_cons Int.lt_irrefl not_false_eq_true decide_false decide_true mI_length mI_cells mI_sz mI_isCell mI_mid mI_append mI_take mI_drop cells_val cells_own cells_agg isCell_I isCell_B isCell_nil isCell_sl isCell_own isCell_ptr isCell_fn isCell_rp isCell_yld cellsOk_I cellsOk_B cellsOk_nil cellsOk_sl cellsOk_own cellsOk_ptr cellsOk_fn cellsOk_rp cellsOk_yld cellsOk_agg cells_nil cells_ptr cells_fn cells_rp List.all_cons List.all_nil Bool.and_true Nat.mul_one Nat.zero_mul Nat.one_mul List.take_zero List.take_nil List.drop_nil List.drop_zero List.not_mem_nil Nat.le_refl Nat.zero_le mS_length mS_cells mS_sz mS_isCell mS_mid mS_append mS_take mS_drop cells_sI isCell_sI cellsOk_sI sI_eq succ_le_self' List.take_succ_cons List.drop_succ_cons List.take_length beq_self_eq_true List.mem_cons or_false forall_eq mI_put mI_rep O_guard' D_earlyG' D_stepG' W_cond' G_tt G_tf G_ft G_ff GE_tt GE_tf GE_ft GE_ff GS_tt GS_tf GS_ft GS_ff G_u GE_u GS_u IC_t IC_f xft xff xtt xtf z00 z20 z22 z02 zz tn0

section
variable {n : Nat} {set : Int} {fr : Fr}
/-- The rounds of finding: whose they are. -/
noncomputable def cl33 (set : Int) (fr : Fr) : Cl where
  Γ := Option (List Int)
  σ := Option (List Int)
  val q := q
  live q := q = none
  ok q H := H[0]? = some (.cells [I set]) ∧ H[1]? = some (.cells [match q with | none => nilSl | some D => .sl false false (mI D)]) ∧ H[2]? = some (.cells [I 0]) ∧
    H[4]? = some (.loop (if q.isSome then .done else .ready) (if q.isSome then some .ret else none) fr 20 #[13] (asOf Try.f33 0) (bdOf Try.f33 0))
  mine _ j := j = 0 ∨ j = 1 ∨ j = 2 ∨ j = 4
  go _ D := !(Sp.creP D == set)
  upd s D := if Sp.creP D == set then some D else s
  frame := fun q H H' h hk => by rw [hk 0 (by simp), hk 1 (by simp), hk 2 (by simp), hk 4 (by simp)]; exact h
  lt := fun q H j h hm => by
    rcases hm with rfl | rfl | rfl | rfl
    · exact (List.getElem?_eq_some_iff.1 h.1).1
    · exact (List.getElem?_eq_some_iff.1 h.2.1).1
    · exact (List.getElem?_eq_some_iff.1 h.2.2.1).1
    · exact (List.getElem?_eq_some_iff.1 h.2.2.2).1

set_option maxHeartbeats 1000000 in
theorem y33 (h1 : 1 ≤ n) (hn : n ≤ 7) (f3 : fr.get 3 = ptr 0 0) (f4 : fr.get 4 = ptr 1 0) (f5 : fr.get 5 = ptr 2 0) : YOk Try.prog (cl33 set fr) 4 n fun _ => domN n := by
  rintro q H k lb cs D ⟨h0, h1', h2, hL⟩ hlive hok hmk hk htk hDn hle hdom
  have hq : q = none := hlive
  subst hq
  have lt : ∀ {H : AHeap} {j b}, H[j]? = some b → j < H.length := fun hj => (List.getElem?_eq_some_iff.1 hj).1
  have hmk' : k ≠ 0 ∧ k ≠ 1 ∧ k ≠ 2 ∧ k ≠ 4 := ⟨fun h => hmk (.inl h), fun h => hmk (.inr (.inl h)), fun h => hmk (.inr (.inr (.inl h))), fun h => hmk (.inr (.inr (.inr h)))⟩
  refine CallV.yldW mixed (L := 4) (fr := fr) (n := 20) (ps := [13]) hL t33R0a t33R0b rfl (by simp) ?_
  simp only [w33R0a, putArgs, go_sem, Nat.reduceEqDiff, Nat.reduceAdd, Nat.reduceLT, Nat.reduceLeDiff, reduceIte, reduceCtorEq]
  refine ⟨hL, ?_⟩
  have hLl := lt hL
  have hlp : ∀ LP, HOk LP H → LP 4 fr := fun LP h0 => h0 4 _ hL
  obtain ⟨Hb, hHb⟩ : ∃ Hb, H.set 4 (.loop .busy none fr 20 #[13] (asOf Try.f33 0) (bdOf Try.f33 0)) = Hb := ⟨_, rfl⟩
  have hbl : Hb.length = H.length := by rw [← hHb, List.length_set]
  have hb4 : Hb[4]? = some (.loop .busy none fr 20 #[13] (asOf Try.f33 0) (bdOf Try.f33 0)) := by rw [← hHb, List.getElem?_set_self hLl]
  have hbe : ∀ j, j ≠ 4 → Hb[j]? = H[j]? := fun j hj => by rw [← hHb, List.getElem?_set_ne (Ne.symm hj)]
  have b0 := (hbe 0 (by omega)).trans h0
  have b1 : Hb[1]? = some (.cells [nilSl]) := (hbe 1 (by omega)).trans h1'
  have b2 := (hbe 2 (by omega)).trans h2
  have bk := (hbe k hmk'.2.2.2).trans hk
  have okb : ∀ LP, HOk LP H → HOk LP Hb := fun LP h0 => by rw [← hHb]; exact h0.set (b := .loop .busy none fr 20 #[13] _ _) (hlp LP h0)
  rw [hHb]
  have hlend : ∀ H' : AHeap, H'[k]? = some (.cells cs) → vle.vleL H' [] [] 3 [.own k 0 n lb 1] [.sl false false (mI D)] := fun H' hH => ⟨vle_mI hH (by simp) hDn.symm (by rw [htk]), trivial⟩
  simp only [w33R0b, f3, b0, go_sem, Nat.reduceEqDiff, Nat.reduceAdd, Nat.reduceLT, Nat.reduceLeDiff, reduceIte, reduceCtorEq]
  refine ⟨by simp, CallKD.fills (by omega) (fun H' hf => CallV.of_spec (first := []) (cap := []) (Spec.lend (s63 false false D (by omega) (by omega) (by rw [hDn]; exact hdom.2)) rfl (hlend H' (hf k _ bk (by simp))))) ?_⟩
  simp only [f3, b0, go_sem, Nat.reduceEqDiff, Nat.reduceAdd, Nat.reduceLT, Nat.reduceLeDiff, reduceIte, reduceCtorEq]
  have hto : ∀ (q : Option (List Int)) (H1 : AHeap), H1.length = Hb.length → (∀ j, j ≠ 1 → H1[j]? = Hb[j]?) → H1[1]? = some (.cells [match q with | none => nilSl | some D => .sl false false (mI D)]) → (∀ LP, HOk LP Hb → HOk LP H1) →
      (cl33 set fr).To H.length (none : Option (List Int)) H q (H1.set 4 (.loop (if q.isSome then .done else .ready) (if q.isSome then some .ret else none) fr 20 #[13] (asOf Try.f33 0) (bdOf Try.f33 0))) := by
    intro q H1 hl hk1 hc hok1
    refine ⟨⟨?_, ?_, ?_, ?_⟩, fun LP h9 => (hok1 LP (okb LP h9)).set (b := .loop _ _ fr 20 #[13] _ _) (hlp LP h9), by rw [List.length_set]; omega, fun j hj hm => ?_, fun j hj => .inl hj⟩
    · rw [List.getElem?_set_ne (by omega), hk1 0 (by omega)]; exact b0
    · rw [List.getElem?_set_ne (by omega)]; exact hc
    · rw [List.getElem?_set_ne (by omega), hk1 2 (by omega)]; exact b2
    · rw [List.getElem?_set_self (by omega)]
    · have : j ≠ 0 ∧ j ≠ 1 ∧ j ≠ 2 ∧ j ≠ 4 := ⟨fun h => hm (.inl h), fun h => hm (.inr (.inl h)), fun h => hm (.inr (.inr (.inl h))), fun h => hm (.inr (.inr (.inr h)))⟩
      rw [List.getElem?_set_ne (by omega), hk1 j this.2.1, hbe j this.2.2.2]
  have hgo : (cl33 set fr).go ((cl33 set fr).val (none : Option (List Int))) D = !(Sp.creP D == set) := rfl
  have hup : (cl33 set fr).upd ((cl33 set fr).val (none : Option (List Int))) D = if Sp.creP D == set then some D else none := rfl
  refine IC.split (fun hc => ?_) fun hc => ?_
  · simp only [go_sem, Nat.reduceEqDiff, Nat.reduceAdd, Nat.reduceLT, Nat.reduceLeDiff, reduceIte, reduceCtorEq]
    refine CallK.pure (CallV.of_spec (first := []) (cap := []) (Spec.lendInts (s44o false false D (by omega) (by omega)) (hlend _ bk))) ?_
    have e2 : (Hb.set 1 (.cells [.sl false false (mI D)]))[2]? = some (.cells [I 0]) := by rw [List.getElem?_set_ne (by omega)]; exact b2
    simp only [f4, b1, f5, e2, go_sem, Nat.reduceEqDiff, Nat.reduceAdd, Nat.reduceLT, Nat.reduceLeDiff, reduceIte, reduceCtorEq]
    have esame : ((Hb.set 1 (.cells [.sl false false (mI D)])).set 2 (.cells [I 0])) = Hb.set 1 (.cells [.sl false false (mI D)]) := by
      refine List.ext_getElem? fun j => ?_
      by_cases hj : j = 2
      · subst hj; rw [List.getElem?_set_self (by have := lt e2; simpa using this), e2]
      · rw [List.getElem?_set_ne (Ne.symm hj)]
    rw [esame]
    have ht := hto (some D) (Hb.set 1 (.cells [.sl false false (mI D)])) (by simp) (fun j hj => List.getElem?_set_ne (Ne.symm hj)) (by rw [List.getElem?_set_self (by have := lt b1; exact this)]) (fun LP h9 => h9.set (b := .cells [.sl false false (mI D)]) (by simp [blkN, bndL, AVal.bnd, mI_bnd]))
    refine ⟨by rw [List.getElem?_set_ne (by omega)]; exact hb4, idρ _, _, Wk.ok (fr' := []) (ms := []) (ht.hok _ hok) (fun _ _ h => h) ht.len (fun _ h => by cases h) (fun _ h => by cases h), by rw [hgo, hc]; rfl, some D, by rw [hup, if_pos hc]; rfl, fun h => ?_, ht⟩
    rw [hgo, hc] at h; cases h
  · simp only [go_sem, Nat.reduceEqDiff, Nat.reduceAdd, Nat.reduceLT, Nat.reduceLeDiff, reduceIte, reduceCtorEq]
    have ht := hto none Hb rfl (fun _ _ => rfl) b1 (fun _ h => h)
    exact ⟨hb4, idρ _, _, Wk.ok (fr' := []) (ms := []) (ht.hok _ hok) (fun _ _ h => h) ht.len (fun _ h => by cases h) (fun _ h => by cases h), by rw [hgo, hc]; rfl, none, by rw [hup, if_neg (by rw [hc]; simp)]; rfl, fun _ => rfl, ht⟩
theorem run_find {P : List Int → Bool} : ∀ (l : List (List Int)), (run (fun (_ : Option (List Int)) D => !P D) (fun s D => if P D then some D else s) none l).1 = l.find? P
  | [] => rfl
  | x :: l => by
    rw [run, List.find?_cons]
    by_cases h : P x = true
    · simp [h]
    · have h : P x = false := by simpa using h
      simp only [h, Bool.not_false, if_true, Bool.false_eq_true, if_false]
      exact run_find l
/-- What Fold answers. -/
def foldV (n : Nat) (set : Int) : AVal := match foldF n set with
  | some D => .tup [.sl false false (mI D), I 0]
  | none => .tup [.sl false false (mI []), I 4]
theorem s33 (n set : Int) : Abs.Spec Try.prog 33 [I n, I set] [] fun v H' => H' = [] ∧ v = if creOk n set then foldV n.toNat set else .tup [.sl false false (mI []), I 2] := by
  refine Abs.Spec.walk mixed fn33 nn33 t33 q33 nt33 (by simp) ?_
  simp only [w33R0a, w33R0b, w33T0, w33, go_sem, Nat.reduceEqDiff, Nat.reduceAdd, Nat.reduceLT, Nat.reduceLeDiff, reduceIte, reduceCtorEq]
  refine CallK.pure (liftV (s61 n set) (by simp [bndL, AVal.bnd]) rfl _) ?_
  simp only [go_sem, Nat.reduceEqDiff, Nat.reduceAdd, Nat.reduceLT, Nat.reduceLeDiff, reduceIte, reduceCtorEq]
  refine IC.split (fun h => ?_) fun h => ?_
  · have h : creOk n set = false := by simpa using h
    simp only [go_sem, Nat.reduceEqDiff, Nat.reduceAdd, Nat.reduceLT, Nat.reduceLeDiff, reduceIte, reduceCtorEq]
    exact leafCC nilSl (I 2) (.tup [.sl false false (mI []), I 2]) rfl rfl rfl ⟨by simp, by simp⟩ ⟨by simp, by simp⟩ ⟨⟨mI_bnd, rfl, rfl⟩, rfl, trivial⟩ ⟨rfl, by rw [h]; rfl⟩
  have h : creOk n set = true := by simpa using h
  rw [h, if_pos rfl]
  obtain ⟨m, rfl, hm1, hm7, hl, -, -⟩ := creOk_nat h
  rw [Int.toNat_natCast]
  simp only [go_sem, Nat.reduceEqDiff, Nat.reduceAdd, Nat.reduceLT, Nat.reduceLeDiff, reduceIte, reduceCtorEq]
  refine CallK.pure (liftV (s65 m) (by simp [bndL, AVal.bnd]) (by simp [AVal.bnd, bndL]) _) ?_
  simp only [go_sem, Nat.reduceEqDiff, Nat.reduceAdd, Nat.reduceLT, Nat.reduceLeDiff, reduceIte, reduceCtorEq]
  generalize hfr : (List.cons (12, _) _ : Fr) = fr
  have f3 : Fr.get fr 3 = ptr 0 0 := by rw [← hfr]; rfl
  have f4 : Fr.get fr 4 = ptr 1 0 := by rw [← hfr]; rfl
  have f5 : Fr.get fr 5 = ptr 2 0 := by rw [← hfr]; rfl
  have f12 : Fr.get fr 12 = .fn (.func 76) [] [.rp [I m]] := by rw [← hfr]; rfl
  have hbnd : (fr.all fun q => q.2.bnd 5) = true := by rw [← hfr]; simp [AVal.bnd, bndL]
  clear hfr
  refine W_range rfl f12 ?_
  have hcl : (cl33 set fr).ok (none : Option (List Int)) ([.cells [I set], .cells [nilSl], .cells [I 0]] ++ [.defs, .loop .ready none fr 20 #[13] (asOf Try.f33 0) (bdOf Try.f33 0)]) := ⟨rfl, rfl, rfl, rfl⟩
  have hok : HOk (LPb 5) ([.cells [I set], .cells [nilSl], .cells [I 0]] ++ [.defs, .loop .ready none fr 20 #[13] (asOf Try.f33 0) (bdOf Try.f33 0)]) := by
    have k1 := (HOk.nil (LP := LPb 5)).push (b := .cells [I set]) rfl
    have k2 := k1.push (b := .cells [nilSl]) rfl
    have k3 := k2.push (b := .cells [I 0]) rfl
    have k4 := k3.push (b := .defs) trivial
    exact k4.push (b := .loop .ready none fr 20 #[13] (asOf Try.f33 0) (bdOf Try.f33 0)) ⟨by simp, hbnd⟩
  refine (s76 (c := cl33 set fr) (by omega) hm1 (y33 hm1 (by omega) f3 f4 f5) (γ := (none : Option (List Int))) (.mem fold_ok) rfl hok hcl (by simp)).mono ?_
  rintro v H' ⟨_, (q : Option (List Int)), hval, hto⟩
  have hq : q = foldF m set := by
    have h0 : q = (run (fun (_ : Option (List Int)) D => !(Sp.creP D == set)) (fun s D => if Sp.creP D == set then some D else s) none (foldL m)).1 := hval
    rw [h0, run_find (P := fun D => Sp.creP D == set)]; rfl
  obtain ⟨k0, k1, k2, kL⟩ := hto.ok
  have hm3 : H'[3]? = some .defs := by
    rw [hto.kept 3 (by simp) (fun h => by rcases h with h | h | h | h <;> omega)]; rfl
  unfold foldV
  rw [← hq]
  cases q with
  | none =>
    refine ⟨.ready, none, kL, (fun h => by cases h), ?_⟩
    show KQ _ _ .norm _ _ _ _
    have e1 : (H'.set 4 .dead)[1]? = some (.cells [nilSl]) := by rw [List.getElem?_set_ne (by omega)]; exact k1
    have e2 : ((H'.set 4 .dead).set 1 (.cells [nilSl]))[2]? = some (.cells [I 0]) := by rw [List.getElem?_set_ne (by omega), List.getElem?_set_ne (by omega)]; exact k2
    simp only [w33T0, f4, f5, e1, e2, go_sem, Nat.reduceEqDiff, Nat.reduceAdd, Nat.reduceLT, Nat.reduceLeDiff, reduceIte, reduceCtorEq]
    have l1 := (List.getElem?_eq_some_iff.1 k1).1
    have l2 := (List.getElem?_eq_some_iff.1 k2).1
    refine leafCC (H' := ((((H'.set 4 .dead).set 1 (.cells [nilSl])).set 2 (.cells [I 4])).set 3 .dead)) nilSl (I 4) (.tup [.sl false false (mI []), I 4]) (p := 0 + 1 ≤ 1 ∧ (false = false → 1 = 1)) (q := 0 + 1 ≤ 1 ∧ (false = false → 1 = 1)) ?_ ?_ ?_ ⟨by simp, by simp⟩ ⟨by simp, by simp⟩ ⟨⟨mI_bnd, rfl, rfl⟩, rfl, trivial⟩ ⟨rfl, rfl⟩
    · simp only [killM]
      rw [List.getElem?_set_ne (by omega), List.getElem?_set_ne (by omega), List.getElem?_set_ne (by omega), hm3]
    · rw [f4, loadA, List.getElem?_set_ne (by omega), List.getElem?_set_ne (by omega), List.getElem?_set_self (by simpa using l1)]; rfl
    · rw [f5, loadA, List.getElem?_set_ne (by omega), List.getElem?_set_self (by simpa using l2)]; rfl
  | some D =>
    refine ⟨.done, some .ret, kL, (fun h => by cases h), ?_⟩
    show KQ _ _ .ret _ _ _ _
    simp only [go_sem, Nat.reduceEqDiff, Nat.reduceAdd, Nat.reduceLT, Nat.reduceLeDiff, reduceIte, reduceCtorEq]
    refine leafCC (H' := ((H'.set 4 .dead).set 3 .dead)) (.sl false false (mI D)) (I 0) (.tup [.sl false false (mI D), I 0]) (p := 0 + 1 ≤ 1 ∧ (false = false → 1 = 1)) (q := 0 + 1 ≤ 1 ∧ (false = false → 1 = 1)) ?_ ?_ ?_ ⟨by simp, by simp⟩ ⟨by simp, by simp⟩ ⟨⟨mI_bnd, fun h => h, fun h => h, rfl⟩, rfl, trivial⟩ ⟨rfl, rfl⟩
    · simp only [killM]
      rw [List.getElem?_set_ne (by omega), hm3]
    · rw [f4, loadA, List.getElem?_set_ne (by omega), List.getElem?_set_ne (by omega), k1]; rfl
    · rw [f5, loadA, List.getElem?_set_ne (by omega), List.getElem?_set_ne (by omega), k2]; rfl
end

/-- A pile with some mountains: each leaf is laid next to the one before. -/
def wit (set : Nat) : Nat → List Int
  | 0 => []
  | 1 => [0]
  | n + 2 => (wit set (n + 1)).flatMap fun x => if x == (n : Int) then (if (set.testBit n == (n % 2 == 0)) = true then [x, (n + 1 : Nat)] else [((n + 1 : Nat) : Int), x]) else [x]
def witOk (n set : Nat) : Bool := Sp.isOrder (wit set n) n && (Sp.possP (wit set n) (Sp.stripC n) && Sp.creP (wit set n) == set)
set_option maxRecDepth 100000 in
theorem wit_ok : ∀ n : Nat, n < 8 → 1 ≤ n → ∀ set : Nat, set < 2 ^ (n - 1) → witOk n set = true := by decide +kernel
theorem foldF_some {n : Nat} {set : Int} (h1 : 1 ≤ n) (h7 : n ≤ 7) (h0 : 0 ≤ set) (hs : set < 2 ^ (n - 1)) : ∃ D, foldF n set = some D ∧ D ∈ foldL n ∧ Sp.creP D = set := by
  obtain ⟨k, rfl⟩ : ∃ k : Nat, set = k := ⟨set.toNat, by omega⟩
  have hk : k < 2 ^ (n - 1) := by
    have : ((2 ^ (n - 1) : Nat) : Int) = 2 ^ (n - 1) := by norm_cast
    omega
  have hw := wit_ok n (by omega) h1 k hk
  simp only [witOk, Bool.and_eq_true, beq_iff_eq] at hw
  have hm : wit k n ∈ foldL n := (mem_fold (by omega)).2 ⟨Sp.order_pile (by omega) hw.1, hw.2.1⟩
  have hsome : (foldF n k).isSome = true := by
    rw [foldF, List.find?_isSome]
    exact ⟨_, hm, by simp [hw.2.2]⟩
  obtain ⟨D, hD⟩ := Option.isSome_iff_exists.1 hsome
  exact ⟨D, hD, List.mem_of_find?_eq_some hD, by simpa using List.find?_some hD⟩

set_option maxHeartbeats 1000000 in
theorem s8 (n set : Int) : Abs.Spec Try.prog 8 [I n, I set] [] fun v H' => H' = [] ∧ v = B true := by
  have e18 : ∀ H, CallV Try.prog (.fn (.func 18) [] []) [] H fun v H' => v = B true ∧ H' = H := fun H => liftV s18 rfl rfl H
  refine Abs.Spec.walk mixed fn8 nn8 t8 q8 nt8 (by simp) ?_
  simp only [w8, go_sem, Nat.reduceEqDiff, Nat.reduceAdd, Nat.reduceLT, Nat.reduceLeDiff, reduceIte, reduceCtorEq]
  refine CallK.by (CallV.of_spec (s33 n set)) fun v H' ⟨h1, h2⟩ => ?_
  subst h1 h2
  cases hn : creOk n set with
  | false =>
    rw [if_neg (by simp)]
    simp only [List.getD_cons_zero, List.getD_cons_succ, go_sem, Nat.reduceEqDiff, Nat.reduceAdd, Nat.reduceLT, Nat.reduceLeDiff, reduceIte, reduceCtorEq]
    refine CallK.by (CallV.of_spec (s26 n set)) fun v H' ⟨h1, h2⟩ => ?_
    subst h1 h2
    rw [hn, if_neg (by simp)]
    have z0 : (((0 : Nat) : Int) == 0) = true := rfl
    have fin : ∀ fr : Fr, fr.get 5 = .sl false false (mI []) → fr.get 6 = I 2 → fr.get 7 = I 0 → fr.get 8 = I 2 → True := fun _ _ _ _ _ => trivial
    simp only [List.getD_cons_zero, List.getD_cons_succ, go_sem, Nat.reduceEqDiff, Nat.reduceAdd, Nat.reduceLT, Nat.reduceLeDiff, reduceIte, reduceCtorEq]
    refine G.splitP (fun h => ?_) fun h => ?_
    · simp only [mI_length, z0, go_sem, Nat.reduceEqDiff, Nat.reduceAdd, Nat.reduceLT, Nat.reduceLeDiff, reduceIte, reduceCtorEq]
      refine CallK.pure (e18 _) ?_
      simp only [go_sem, Nat.reduceEqDiff, Nat.reduceAdd, Nat.reduceLT, Nat.reduceLeDiff, reduceIte, reduceCtorEq]
      exact leaf (B true) rfl ⟨rfl, rfl⟩
    simp only [go_sem, Nat.reduceEqDiff, Nat.reduceAdd, Nat.reduceLT, Nat.reduceLeDiff, reduceIte, reduceCtorEq]
    refine G.splitP (fun h7 => ?_) fun h7 => ?_
    · simp only [mI_length, z0, go_sem, Nat.reduceEqDiff, Nat.reduceAdd, Nat.reduceLT, Nat.reduceLeDiff, reduceIte, reduceCtorEq]
      refine CallK.pure (e18 _) ?_
      simp only [go_sem, Nat.reduceEqDiff, Nat.reduceAdd, Nat.reduceLT, Nat.reduceLeDiff, reduceIte, reduceCtorEq]
      exact leaf (B true) rfl ⟨rfl, rfl⟩
    simp only [go_sem, Nat.reduceEqDiff, Nat.reduceAdd, Nat.reduceLT, Nat.reduceLeDiff, reduceIte, reduceCtorEq]
    refine G.splitP (fun hs => ?_) fun hs => ?_
    · simp only [mI_length, z0, go_sem, Nat.reduceEqDiff, Nat.reduceAdd, Nat.reduceLT, Nat.reduceLeDiff, reduceIte, reduceCtorEq]
      refine CallK.pure (e18 _) ?_
      simp only [go_sem, Nat.reduceEqDiff, Nat.reduceAdd, Nat.reduceLT, Nat.reduceLeDiff, reduceIte, reduceCtorEq]
      exact leaf (B true) rfl ⟨rfl, rfl⟩
    obtain ⟨m, rfl⟩ : ∃ m : Nat, n = m := ⟨n.toNat, by omega⟩
    have hw : IntKind.i64.wrap ((m : Int) - 1) = ((m - 1 : Nat) : Int) := by rw [wrap64 (by omega) (by omega)]; omega
    have ep := pow_small (m - 1) (by omega)
    have e64 : IntKind.i64.bits = 64 := rfl
    have hlen : lenOk m = true := by simp only [lenOk, Bool.and_eq_true, decide_eq_true_eq]; omega
    have hbig : decide (set ≥ 2 ^ (m - 1)) = true := by
      have hn := hn
      rw [creOk, hlen, Bool.true_and, show decide (0 ≤ set) = true from decide_eq_true (by omega), Bool.true_and, show ((m : Int) - 1).toNat = m - 1 by omega, decide_eq_false_iff_not] at hn
      exact decide_eq_true (by omega)
    simp only [hw, e64, ep, hbig, mI_length, z0, go_sem, Nat.reduceEqDiff, Nat.reduceAdd, Nat.reduceLT, Nat.reduceLeDiff, reduceIte, reduceCtorEq]
    refine CallK.pure (e18 _) ?_
    simp only [go_sem, Nat.reduceEqDiff, Nat.reduceAdd, Nat.reduceLT, Nat.reduceLeDiff, reduceIte, reduceCtorEq]
    exact leaf (B true) rfl ⟨rfl, rfl⟩
  | true =>
    obtain ⟨m, rfl, hm1, hm7, hl, hs0, hsm⟩ := creOk_nat hn
    rw [if_pos rfl, Int.toNat_natCast]
    obtain ⟨D, hD, hDm, hDc⟩ := foldF_some hm1 hm7 hs0 hsm
    have h34 := s34 hm1 hm7 set
    rw [hD] at h34
    rw [foldV, hD]
    have hDl := (fold_ok D hDm).1
    have n1 : decide ((m : Int) < 1) = false := decide_eq_false (by omega)
    have n7 : decide ((m : Int) > 7) = false := decide_eq_false (by omega)
    have ns : decide (set < 0) = false := decide_eq_false (by omega)
    have hw : IntKind.i64.wrap ((m : Int) - 1) = ((m - 1 : Nat) : Int) := by rw [wrap64 (by omega) (by omega)]; omega
    have ep := pow_small (m - 1) (by omega)
    have e64 : IntKind.i64.bits = 64 := rfl
    have hbig : decide (set ≥ 2 ^ (m - 1)) = false := decide_eq_false (by omega)
    simp only [List.getD_cons_zero, List.getD_cons_succ, go_sem, Nat.reduceEqDiff, Nat.reduceAdd, Nat.reduceLT, Nat.reduceLeDiff, reduceIte, reduceCtorEq]
    refine CallK.by (CallV.of_spec (s26 m set)) fun v H' ⟨h1, h2⟩ => ?_
    subst h1 h2
    rw [hn, if_pos rfl, Int.toNat_natCast]
    simp only [List.getD_cons_zero, List.getD_cons_succ, n1, n7, ns, hw, e64, ep, hbig, go_sem, Nat.reduceEqDiff, Nat.reduceAdd, Nat.reduceLT, Nat.reduceLeDiff, reduceIte, reduceCtorEq]
    refine CallK.by (CallV.of_spec h34) fun v H' ⟨h1, h2⟩ => ?_
    subst h1 h2
    rw [Option.getD_some]
    simp only [go_sem, Nat.reduceEqDiff, Nat.reduceAdd, Nat.reduceLT, Nat.reduceLeDiff, reduceIte, reduceCtorEq]
    refine CallK.by (CallV.of_spec (s32 false false false false D D (by omega))) fun v H' ⟨h1, h2⟩ => ?_
    subst h1 h2
    rw [beq_self_eq_true]
    simp only [go_sem, Nat.reduceEqDiff, Nat.reduceAdd, Nat.reduceLT, Nat.reduceLeDiff, reduceIte, reduceCtorEq]
    refine CallK.by (CallV.of_spec (s35 hm1 hm7 set)) fun v H' ⟨h1, h2⟩ => ?_
    subst h1 h2
    simp only [beq_self_eq_true, z00, go_sem, Nat.reduceEqDiff, Nat.reduceAdd, Nat.reduceLT, Nat.reduceLeDiff, reduceIte, reduceCtorEq]
    refine CallK.pure (e18 _) ?_
    simp only [go_sem, Nat.reduceEqDiff, Nat.reduceAdd, Nat.reduceLT, Nat.reduceLeDiff, reduceIte, reduceCtorEq]
    exact leaf (B true) rfl ⟨rfl, rfl⟩
end Go.Proofs.Ythdjloegibenoaa
