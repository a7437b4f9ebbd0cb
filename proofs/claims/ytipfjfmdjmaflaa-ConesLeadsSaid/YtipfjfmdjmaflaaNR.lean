/- Contracts: what is reached. -/
import Derived.Test.YtipfjfmdjmaflaaNQ
namespace Go.Abs
open AVal
variable {x : Cx} {Q : QT} {ks : List Kont} {fr : Fr} {H : AHeap} {ms : List Nat}
/-- What is owned is lent, and a map is made and handed over. -/
theorem Spec.lendM {P : Program} {f : FuncId} {args args' : List AVal} {C : List (AVal × AVal) → Prop} (h : Spec P f args' [] fun v' H' => ∃ es, C es ∧ v' = .mp 0 ∧ H' = [.map es]) (hC : ∀ es, C es → ∀ p ∈ es, p.1.flat = true ∧ p.2.flat = true) {H : AHeap} (ha : vle.vleL H [] [] 3 args args') :
    Spec P f args H fun v' H' => ∃ es, C es ∧ v' = .mp H.length ∧ H' = H ++ [.map es] := by
  refine ⟨h.1, fun φ G w rargs hs hr => ?_⟩
  have hE : WkE φ G H [] w [] := ⟨hs, rfl, fun i => by simp, fun i b hi => by simp at hi, List.nodup_nil⟩
  have hs0 : SimH (wkφ φ []) G [] w := ⟨hs.glt, fun i _ b _ _ hi => by simp at hi, fun i b r hi => by simp at hi, fun i b hi => by simp at hi⟩
  obtain ⟨hlen, hget⟩ := vleL_get ha
  have hc : CRep (env (wkφ φ []) G [] w) args' rargs := ⟨by rw [← hlen]; exact hr.1, fun j u hu => by
    have hj : j < args.length := by rw [hlen]; exact (List.getElem?_eq_some_iff.1 hu).1
    exact vle_sound hE 3 args[j] u _ (hget j _ u (by simp [hj]) hu) (hr.2 j _ (by simp [hj]))⟩
  refine (h.2 _ G w rargs hs0 hc).mono fun e w' ⟨rv, he, v', H', φ1, ⟨es, hC0, h1, h2⟩, h3, h4, h5⟩ => ?_
  · subst h1 h2
    have hf : ∀ r, r < w.heap.size → w'.heap[r]? = w.heap[r]? := fun r hr => h4.frame r hr nil_owned
    have hnew : ∀ r, φ1 0 = some r → w.heap.size ≤ r := fun r hr => by
      rcases h4.own r ⟨0, .map es, rfl, rfl, hr⟩ with h | h
      · exact absurd h nil_owned
      · exact h
    have hsim := sim_same hs h4.size hf
    have hget : ∀ (j : Nat) b, (H ++ [Blk.map es])[j]? = some b → (j < H.length ∧ H[j]? = some b) ∨ (j = H.length ∧ b = .map es) := fun j b hj => by
      rw [List.getElem?_append] at hj
      split at hj
      · rename_i hlt; exact .inl ⟨hlt, hj⟩
      · rename_i hge
        have : j - H.length = 0 := by
          by_cases h0 : j - H.length = 0
          · exact h0
          · rw [List.getElem?_eq_none (by simp; omega)] at hj; cases hj
        rw [this] at hj
        simp at hj
        exact .inr ⟨by omega, hj.symm⟩
    have hown : ∀ r, Owned (up φ H.length (φ1 0)) (H ++ [.map es]) r ↔ Owned φ H r ∨ φ1 0 = some r := fun r => by
      constructor
      · rintro ⟨i, b, hi, hb, hφ⟩
        rcases hget i b hi with ⟨hlt, hi'⟩ | ⟨rfl, rfl⟩
        · rw [up_ne (by omega)] at hφ; exact .inl ⟨i, b, hi', hb, hφ⟩
        · rw [up_same] at hφ; exact .inr hφ
      · rintro (⟨i, b, hi, hb, hφ⟩ | hφ)
        · have hlt := (List.getElem?_eq_some_iff.1 hi).1
          exact ⟨i, b, by rw [List.getElem?_append_left hlt]; exact hi, hb, by rw [up_ne (by omega)]; exact hφ⟩
        · exact ⟨H.length, .map es, by simp, rfl, by rw [up_same]; exact hφ⟩
    have hR : ∀ {u : AVal} {x : Value}, Rep (env φ G H w) u x → Rep (env (up φ H.length (φ1 0)) G (H ++ [.map es]) w') u x := fun {u x} hu => by
      refine hu.mono ⟨fun i hi => up_ne (by have := Dom.lt hi; omega), fun i hi => ?_, fun b hb => ?_, fun r hr _ => hf r hr, h4.shape⟩
      · obtain ⟨b, hb, hne⟩ := hi
        exact ⟨b, by rw [List.getElem?_append_left (List.getElem?_eq_some_iff.1 hb).1]; exact hb, hne⟩
      · rcases hb with hb | hb
        · exact .inl (.inl hb)
        · rcases (hown b).1 hb with hb | hb
          · exact .inl (.inr hb)
          · exact .inr (hnew b hb)
    have hblk := h3.blk 0 _ rfl
    have hLH : (H ++ [Blk.map es])[H.length]? = some (.map es) := by simp
    refine ⟨rv, he, _, _, up φ H.length (φ1 0), ⟨es, hC0, rfl, rfl⟩, ⟨hsim.glt, fun i j b c r hi hj hb hc hir hjr => ?_, fun i b r hi hb hir => ?_, fun i b hi => ?_⟩, ⟨fun i hi => up_ne (by omega), fun i hi hd => ?_, fun _ => by simp, fun r hr => ?_, fun r hr _ => hf r hr, h4.shape, h4.size, h4.os, h4.tape, h4.output, h4.drawn⟩, ?_⟩
    · rcases hget i b hi with ⟨h1, hi'⟩ | ⟨rfl, rfl⟩ <;> rcases hget j c hj with ⟨h2, hj'⟩ | ⟨rfl, rfl⟩
      · rw [up_ne (by omega)] at hir hjr; exact hs.inj i j b c r hi' hj' hb hc hir hjr
      · rw [up_ne (by omega)] at hir; rw [up_same] at hjr
        have := hs.lt hi' hb hir; have := hnew r hjr; omega
      · rw [up_ne (by omega)] at hjr; rw [up_same] at hir
        have := hs.lt hj' hc hjr; have := hnew r hir; omega
      · rfl
    · rcases hget i b hi with ⟨h1, hi'⟩ | ⟨rfl, rfl⟩
      · rw [up_ne (by omega)] at hir; exact hs.dis i b r hi' hb hir
      · rw [up_same] at hir; intro hg; have := hs.glt r hg; have := hnew r hir; omega
    · rcases hget i b hi with ⟨h1, hi'⟩ | ⟨rfl, rfl⟩
      · rw [up_ne (by omega)]
        by_cases hal : b.alive = true
        · refine BlkRep.mono (E := env φ G H w) (E' := env (up φ H.length (φ1 0)) G (H ++ [.map es]) w') ⟨fun i hi => up_ne (by have := Dom.lt hi; omega), fun i hi => ?_, fun b hb => ?_, fun r hr _ => hf r hr, h4.shape⟩ (fun r hr => hf r (hs.lt hi' hal hr)) (hs.blk i b hi')
          · obtain ⟨b, hb, hne⟩ := hi
            exact ⟨b, by rw [List.getElem?_append_left (List.getElem?_eq_some_iff.1 hb).1]; exact hb, hne⟩
          · rcases hb with hb | hb
            · exact .inl (.inl hb)
            · rcases (hown b).1 hb with hb | hb
              · exact .inl (.inr hb)
              · exact .inr (hnew b hb)
        · cases b <;> first | trivial | exact absurd rfl hal
      · rw [up_same]
        simp only [BlkRep] at hblk ⊢
        obtain ⟨r, c, e, hc, hz, hr⟩ := hblk
        exact ⟨r, c, e, hc, hz, fun j p hp => by
          obtain ⟨q, h1, h2, h3, h4⟩ := hr j p hp
          have := hC es hC0 p (List.mem_of_getElem? hp)
          exact ⟨q, h1, h2, h3.flat this.1, h4.flat this.2⟩⟩
    · obtain ⟨b, hb, hne⟩ := hd
      exact ⟨b, by rw [List.getElem?_append_left (List.getElem?_eq_some_iff.1 hb).1]; exact hb, hne⟩
    · rcases (hown r).1 hr with h | h
      · exact .inl h
      · exact .inr (hnew r h)
    · cases h5 with
      | mp i r hi h9 => exact .mp _ r ⟨.map es, hLH, by simp⟩ (by show up φ H.length (φ1 0) H.length = some r; rw [up_same]; exact h9)
/-- An append to a slice whose room isn't known. -/
theorem alA_grow {k b i off len m : Nat} {cs xc : List AVal} {px : Prop} {a : AVal} {d : Option Nat} {l : List IIns} (hx : srcA k a H = some (m, xc, px)) (hpx : px) (hm : 0 < m) (hi : H[i]? = some (.cells cs)) (hfit : off + len * k ≤ cs.length) (hcell : ∀ u ∈ (cs.drop off).take (len * k), u.isCell = true) (hf : (len + m) * b ≤ 2 ^ 40)
    (h1 : O x Q l ks (fr.putd d (.own i off (len + m) (len + m) k)) (H.set i (.cells (cs.take (off + len * k) ++ xc ++ cs.drop (off + len * k + m * k)))) ms)
    (h2 : O x Q l ks (fr.putd d (.own H.length 0 (len + m) (len + m) k)) (H.set i .dead ++ [.cells ((cs.drop off).take (len * k) ++ xc)]) ms) :
    alA x Q (appB k b (.own i off len len k) a H H.length fun H b => H ++ [b]) k b (.own i off len len k) a d l ks fr H ms := by
  have hn : ¬ len + m ≤ len := by omega
  by_cases h0 : off = 0
  · subst h0
    simp only [appB, appA, hx, hi, if_true, hn, if_false, alA]
    simp only [List.drop_zero] at h2 hcell
    exact ⟨⟨hpx, by omega, hcell, hf⟩, h2⟩
  · simp only [appB, appA, hx, hi, if_true, hn, if_false, h0, alA, app2A]
    exact ⟨trivial, hpx, hm, hfit, hcell, hf, h1, h2⟩
end Go.Abs
namespace Go.Proofs.Ytipfjfmdjmaflaa
open Go.Abs AVal
set_option linter.unusedSimpArgs false
attribute [local go_sem] W_skip W_keep KQ_canon canon Fr.norm W_seq W_block W_scope W_exit W_ret W_ops W_draw KQ_nil KQ_norm_seq KQ_exit_seq KQ_ret_seq KQ_norm_block KQ_ret_block KQ_exit_block KQ_exit_loop KQ_ret_loop O_nil O_cons S_call S_mv SE_mv SD_mv S_pick SE_pick SD_pick S_bin SE_bin SD_bin S_eqb SE_eqb SD_eqb S_eqv SE_eqv SD_eqv S_eqnil SE_eqnil SD_eqnil S_un SE_un SD_un S_conv SE_conv SD_conv S_mkfn SE_mkfn SD_mkfn S_load SE_load SD_load S_nilck SE_nilck SD_nilck S_slS SE_slS SD_slS S_slP SE_slP SD_slP S_fldA SE_fldA SD_fldA S_fld SE_fld SD_fld S_ixS SE_ixS SD_ixS S_ixP SE_ixP SD_ixP S_ixV SE_ixV SD_ixV S_ixStr SE_ixStr SD_ixStr S_ext SE_ext SD_ext S_len SE_len SD_len S_lenStr SE_lenStr SD_lenStr S_lenc SE_lenc SD_lenc S_mn SE_mn SD_mn S_mx SE_mx SD_mx S_build SE_build SD_build S_alloc SD_alloc S_box SD_box S_bslice SD_bslice S_mksl SD_mksl S_store SD_store S_append SD_append S_copy SD_copy S_clr SD_clr S_mlen SE_mlen SD_mlen S_mget SE_mget SD_mget S_mval SE_mval SD_mval S_mentry SE_mentry SD_mentry S_mkmap SD_mkmap S_mset SD_mset S_mrange SD_mrange S_mnext mlenA mgetA mvalA mentryA msetA mrangeA cells_mp isCell_mp cellsOk_mp aq_some aa_some al_some alA_some aqd_some aad_some ald_some ape_some D_done D_both D_early D_step SE_call SD_call IOpd.ev Fr.get Fr.put Fr.putd entryFr pickA binA binI isSh shI eqbA eqvA ints ints_mI Option.map_some eqnilA unA convA loadA nilckA intA slSA slPA fldAA fldVA ixSA ixPA ixVA ixStrA extA lenA lenStrA mnA mxA AVal.fits fillA fillOk buildA opa srcA appA stoA copA clrA rdFree zeros List.length_nil List.length_cons List.length_map List.map_cons List.map_nil Option.map_some Option.map_none if_true if_false ite_true ite_false true_and and_true and_self implies_true forall_const true_implies Bool.false_eq_true Bool.not_true Bool.not_false decide_eq_true_eq decide_eq_false_iff_not eq_self List.getElem?_cons_zero List.getElem?_cons_succ List.getElem?_nil List.set_cons_zero List.set_cons_succ List.nil_append List.cons_append List.append_nil List.replicate_zero List.replicate_succ Nat.zero_add false_implies rng_lt rng_end rng_get cells_I cells_B cells_sl cut_one Int.toNat_natCast Int.natCast_nonneg List.headD_cons Int.lt_irrefl not_false_eq_true decide_false decide_true mI_length mI_cells mI_sz mI_isCell mI_mid mI_append mI_take mI_drop cells_val cells_own cells_agg isCell_I isCell_B isCell_nil isCell_sl isCell_own isCell_ptr isCell_fn isCell_rp isCell_yld cellsOk_I cellsOk_B cellsOk_nil cellsOk_sl cellsOk_own cellsOk_ptr cellsOk_fn cellsOk_rp cellsOk_yld cellsOk_agg cells_nil cells_ptr cells_fn cells_rp List.all_cons List.all_nil Bool.and_true Nat.mul_one Nat.zero_mul Nat.one_mul List.take_zero List.take_nil List.drop_nil List.drop_zero List.not_mem_nil Nat.le_refl Nat.zero_le mS_length mS_cells mS_sz mS_isCell mS_mid mS_append mS_take mS_drop cells_sI isCell_sI cellsOk_sI sI_eq succ_le_self' List.take_succ_cons List.drop_succ_cons List.take_length beq_self_eq_true List.mem_cons or_false forall_eq mI_put mI_rep O_guard' D_earlyG' D_stepG' W_cond' G_tt G_tf G_ft G_ff GE_tt GE_tf GE_ft GE_ff GS_tt GS_tf GS_ft GS_ff G_u GE_u GS_u IC_t IC_f xft xff xtt xtf z00 z20 z22 z02 zz tn0
/-- Found: where, from where, how far. -/
abbrev Ent := List Int × List Int × Nat
def hasK (es : List Ent) (y : List Int) : Bool := es.any (·.1 == y)
def addE (Y : List Int) (d : Nat) (es : List Ent) (y : List Int) : List Ent := if hasK es y then es else es ++ [(y, Y, d + 1)]
def entA (e : Ent) : AVal × AVal := (vec e.1, vec e.2.1)
theorem keyI_vec {y : List Int} (h : y.length = 4) : keyI 4 (.agg (mI y)) = some y := by simp [keyI, ints_mI, h]
theorem mfind_no {y : List Int} : ∀ {es : List Ent} {i : Nat}, (∀ e ∈ es, e.1.length = 4) → hasK es y = false → mfind 4 y (es.map entA) i = some none
  | [], _, _, _ => rfl
  | e :: es, i, h4, h => by
    simp only [hasK, List.any_cons, Bool.or_eq_false_iff] at h
    simp only [List.map_cons, mfind, entA, vec, keyI_vec (h4 e (by simp))]
    have : (y == e.1) = false := by
      rw [beq_eq_false_iff_ne] at h ⊢
      exact fun e => h.1 e.symm
    rw [this, if_neg (by decide)]
    exact mfind_no (fun e he => h4 e (by simp [he])) h.2
theorem mfind_yes {y : List Int} : ∀ {es : List Ent} {i : Nat}, (∀ e ∈ es, e.1.length = 4) → hasK es y = true → ∃ j, ∃ e ∈ es, e.1 = y ∧ mfind 4 y (es.map entA) i = some (some (j, vec e.2.1))
  | [], _, _, h => by cases h
  | e :: es, i, h4, h => by
    simp only [List.map_cons, mfind, entA, vec, keyI_vec (h4 e (by simp))]
    by_cases hy : e.1 = y
    · refine ⟨i, e, by simp, hy, ?_⟩
      rw [hy, beq_self_eq_true, if_pos rfl]
    · have h' : hasK es y = true := by
        simp only [hasK, List.any_cons, Bool.or_eq_true, beq_iff_eq] at h
        simp only [hasK]
        exact h.resolve_left hy
      obtain ⟨j, e', he', h1, h2⟩ := mfind_yes (i := i + 1) (fun e he => h4 e (by simp [he])) h'
      refine ⟨j, e', by simp [he'], h1, ?_⟩
      have : (y == e.1) = false := by rw [beq_eq_false_iff_ne]; exact fun e => hy e.symm
      rw [this, if_neg (by decide)]
      exact h2
/-- The queue, flat. -/
def qF (i : Nat) (es : List Ent) : List Int := ((es.map (·.1)).drop i).flatten
theorem qF_snoc {i : Nat} {es : List Ent} (h : i ≤ es.length) (e : Ent) : qF i (es ++ [e]) = qF i es ++ e.1 := by
  unfold qF
  rw [List.map_append, List.drop_append_of_le_length (by simpa using h), List.flatten_append]
  simp
theorem qF_head {i : Nat} {es : List Ent} {e : Ent} (h : es[i]? = some e) : qF i es = e.1 ++ qF (i + 1) es := by
  unfold qF
  obtain ⟨hi, he⟩ := List.getElem?_eq_some_iff.1 h
  rw [List.drop_eq_getElem_cons (by simpa using hi)]
  simp [he]
theorem grow_in {cs rest : List AVal} {off n : Nat} {q y : List Int} (hfit : off + n * 4 ≤ cs.length) (hcs : (cs.drop off).take (n * 4) = mI q) (hy : y.length = 4) :
    off + (n + 1) * 4 ≤ (cs.take (off + n * 4) ++ mI y ++ rest).length ∧ ((cs.take (off + n * 4) ++ mI y ++ rest).drop off).take ((n + 1) * 4) = mI (q ++ y) := by
  have ht : (cs.take (off + n * 4)).length = off + n * 4 := by rw [List.length_take]; omega
  have hyl : (mI y).length = 4 := by rw [mI_length, hy]
  have hql : (mI q).length = n * 4 := by rw [← hcs, List.length_take, List.length_drop]; omega
  constructor
  · simp only [List.length_append, ht, hyl]; omega
  · rw [List.append_assoc, List.drop_append_of_le_length (by omega), List.drop_take, show off + n * 4 - off = n * 4 by omega, hcs, ← List.append_assoc, List.take_left' (by rw [List.length_append, hql, hyl]; omega)]
    exact List.map_append.symm
/-- How the search lies. -/
structure RSt (c5 c6 mi i k : Nat) (es : List Ent) (H : AHeap) : Prop where
  h5 : H[c5]? = some (.cells [.mp mi])
  hm : H[mi]? = some (.map (es.map entA))
  hq : ∃ off cs, H[c6]? = some (.cells [.own k off (es.length - i) (es.length - i) 4]) ∧ H[k]? = some (.cells cs) ∧ off + (es.length - i) * 4 ≤ cs.length ∧ (cs.drop off).take ((es.length - i) * 4) = mI (qF i es)
  k5 : k ≠ c5
  k6 : k ≠ c6
def clR (c5 c6 mi i : Nat) (Y : List Int) (d : Nat) : Cl where
  Γ := List Ent × Nat
  σ := List Ent
  val := Prod.fst
  ok γ H := RSt c5 c6 mi i γ.2 γ.1 H
  live _ := True
  mine γ j := j = c5 ∨ j = c6 ∨ j = mi ∨ j = γ.2
  go _ _ := true
  upd es y := addE Y d es y
  frame γ H H' h hk := ⟨by rw [hk c5 (.inl rfl)]; exact h.h5, by rw [hk mi (.inr (.inr (.inl rfl)))]; exact h.hm, by
    obtain ⟨off, cs, h1, h2, h3⟩ := h.hq
    exact ⟨off, cs, by rw [hk c6 (.inr (.inl rfl))]; exact h1, by rw [hk γ.2 (.inr (.inr (.inr rfl)))]; exact h2, h3⟩, h.k5, h.k6⟩
  lt γ H j h hj := by
    obtain ⟨off, cs, h1, h2, h3⟩ := h.hq
    rcases hj with rfl | rfl | rfl | rfl
    · exact (List.getElem?_eq_some_iff.1 h.h5).1
    · exact (List.getElem?_eq_some_iff.1 h1).1
    · exact (List.getElem?_eq_some_iff.1 h.hm).1
    · exact (List.getElem?_eq_some_iff.1 h2).1
def domR (i : Nat) (Y : List Int) (es : List Ent) (y : List Int) : Prop := y.length = 4 ∧ Y.length = 4 ∧ (∃ f, es[i]? = some (Y, f)) ∧ (∀ e ∈ es, e.1.length = 4 ∧ e.2.1.length = 4) ∧ es.length < 34359738368
theorem mapB_bnd (es : List Ent) : ((es.map entA).all fun p => p.1.bnd 0 && p.2.bnd 0) = true := by
  rw [List.all_eq_true]
  intro p hp
  obtain ⟨e, _, rfl⟩ := List.mem_map.1 hp
  simp [entA, vec, AVal.bnd, mI_bnd]
set_option maxRecDepth 20000 in
set_option maxHeartbeats 4000000 in
theorem f106_ok (c5 c6 mi i : Nat) (Y : List Int) (d : Nat) : FOk Try.prog (clR c5 c6 mi i Y d) (.fn (.func 106) [] [.ptr c5 0, .ptr c6 0]) (domR i Y) := by
  rintro ⟨es, k⟩ H y hR hok ⟨hy, hY, ⟨f, hf⟩, h4, hlen⟩
  have hR : RSt c5 c6 mi i k es H := hR
  have hf : es[i]? = some (Y, f) := hf
  have h4 : ∀ e ∈ es, e.1.length = 4 ∧ e.2.1.length = 4 := h4
  have hlen : es.length < 34359738368 := hlen
  refine CallV.of_spec (first := []) (cap := [.ptr c5 0, .ptr c6 0]) ?_
  refine Abs.Spec.walk mixed fn106 nn106 t106 q106 nt106 (by simp) ?_
  obtain ⟨off, cs, hc6, hk, hfit, hcs⟩ := hR.hq
  have h5 := hR.h5
  have hm := hR.hm
  have k5 := hR.k5
  have k6 := hR.k6
  have hil : i < es.length := (List.getElem?_eq_some_iff.1 hf).1
  have l5 : c5 < H.length := (List.getElem?_eq_some_iff.1 h5).1
  have l6 : c6 < H.length := (List.getElem?_eq_some_iff.1 hc6).1
  have lm : mi < H.length := (List.getElem?_eq_some_iff.1 hm).1
  have lk : k < H.length := (List.getElem?_eq_some_iff.1 hk).1
  have m5 : mi ≠ c5 := fun e => by subst e; rw [hm] at h5; cases h5
  have m6 : mi ≠ c6 := fun e => by subst e; rw [hm] at hc6; cases hc6
  have mk : mi ≠ k := fun e => by subst e; rw [hm] at hk; cases hk
  have c56 : c5 ≠ c6 := fun e => by subst e; rw [h5] at hc6; cases hc6
  have a5 : ∀ L : AHeap, (H ++ L)[c5]? = some (.cells [.mp mi]) := fun L => by rw [List.getElem?_append_left l5]; exact h5
  have am : ∀ L : AHeap, (H ++ L)[mi]? = some (.map (es.map entA)) := fun L => by rw [List.getElem?_append_left lm]; exact hm
  have a6 : ∀ L : AHeap, (H ++ L)[c6]? = some (.cells [.own k off (es.length - i) (es.length - i) 4]) := fun L => by rw [List.getElem?_append_left l6]; exact hc6
  have ak : ∀ L : AHeap, (H ++ L)[k]? = some (.cells cs) := fun L => by rw [List.getElem?_append_left lk]; exact hk
  have hyl : (mI y).length = 4 := by rw [mI_length, hy]
  have gy : cut true 4 (mI y) = vec y := cut_vec hy
  have acy := allI_cell y
  have hky := keyI_vec hy
  have hq0 : (cs.drop off).take 4 = mI Y := by
    have := congrArg (List.take 4) hcs
    rw [List.take_take, show min 4 ((es.length - i) * 4) = 4 by omega, qF_head hf] at this
    rw [this]
    show List.take 4 (mI (Y ++ qF (i + 1) es)) = mI Y
    rw [show mI (Y ++ qF (i + 1) es) = mI Y ++ mI (qF (i + 1) es) from List.map_append, List.take_append_of_le_length (by rw [mI_length, hY]; exact Nat.le_refl _), List.take_of_length_le (by rw [mI_length, hY]; exact Nat.le_refl _)]
  have gY : cut true 4 (cs.drop off) = vec Y := by
    show AVal.agg (List.take 4 _) = _
    rw [hq0]; rfl
  cases hh : hasK es y with
  | true =>
    obtain ⟨j, e, he, he1, hj⟩ := mfind_yes (i := 0) (fun e he => (h4 e he).1) hh
    obtain ⟨z, hz⟩ : ∃ z, e.2.1 = z := ⟨_, rfl⟩
    have zl : (mI z).length = 4 := by rw [mI_length, ← hz, (h4 e he).2]
    have acz := allI_cell z
    rw [hz] at hj
    simp only [w106, List.getD_cons_zero, List.getD_cons_succ, a5, am, a6, ak, hyl, gy, hky, hj, vec_eq, app_get, app_get0, app_set, app_set0, List.append_assoc, List.cons_append, List.nil_append, List.length_append, List.length_cons, List.length_nil, List.getElem?_cons_succ, List.getElem?_cons_zero, List.set_cons_succ, List.set_cons_zero, go_sem, Nat.reduceEqDiff, Nat.reduceAdd, Nat.reduceLT, Nat.reduceLeDiff, reduceIte, reduceCtorEq]
    refine ⟨acy, ⟨acz, by rw [← hz]; exact (h4 e he).2⟩, ?_⟩
    have hok' : HOk (LPb H.length) (H ++ [Blk.cells (mI y), Blk.cells (mI z)]) := by
      have := (hok.pushI y).pushI z
      simpa [List.append_assoc] using this
    have hto : (clR c5 c6 mi i Y d).To H.length (es, k) H (es, k) (H ++ [Blk.cells (mI y), Blk.cells (mI z)]) := Cl.To.wr hR (by simp) (fun j hj => List.getElem?_append_left hj) (Nat.le_refl _) fun LP h => by
      have := (h.pushI y).pushI z
      simpa [List.append_assoc] using this
    refine leafN0 (LP := LPb H.length) hok' (fun _ _ h => h) (by simp) ⟨rfl, (es, k), ?_, hto⟩
    show es = addE Y d es y
    unfold addE; rw [hh, if_pos rfl]
  | false =>
    have hj := mfind_no (i := 0) (fun e he => (h4 e he).1) hh
    simp only [w106, ↓S_appB, Nat.add_zero, List.getD_cons_zero, List.getD_cons_succ, a5, am, a6, ak, hyl, gy, hky, hj, gY, vec_eq, app_get, app_get0, app_set, app_set0, List.append_assoc, List.cons_append, List.nil_append, List.length_append, List.length_cons, List.length_nil, List.getElem?_cons_succ, List.getElem?_cons_zero, List.set_cons_succ, List.set_cons_zero, go_sem, Nat.reduceEqDiff, Nat.reduceAdd, Nat.reduceLT, Nat.reduceLeDiff, reduceIte, reduceCtorEq]
    have sm : ∀ (L : AHeap) b, (H ++ L).set mi b = H.set mi b ++ L := fun L b => List.set_append_left _ _ lm
    have hnx : es.length + 1 - i = es.length - i + 1 := by omega
    obtain ⟨B', hB'⟩ : ∃ B', Blk.map (List.map entA es ++ [(agg (mI y), agg (mI Y))]) = B' := ⟨_, rfl⟩
    have eB : B' = Blk.map (List.map entA (es ++ [(y, Y, d + 1)])) := by rw [← hB', List.map_append]; rfl
    obtain ⟨H1, hH1⟩ : ∃ H1, H.set mi B' = H1 := ⟨_, rfl⟩
    have l1 : H1.length = H.length := by rw [← hH1, List.length_set]
    have b5 : H1[c5]? = some (.cells [.mp mi]) := by rw [← hH1, List.getElem?_set_ne m5]; exact h5
    have bm : H1[mi]? = some B' := by rw [← hH1, List.getElem?_set_self lm]
    have b6' : H1[c6]? = some (.cells [.own k off (es.length - i) (es.length - i) 4]) := by rw [← hH1, List.getElem?_set_ne m6]; exact hc6
    have b6 : ∀ L : AHeap, (H1 ++ L)[c6]? = some (.cells [.own k off (es.length - i) (es.length - i) 4]) := fun L => by rw [List.getElem?_append_left (by omega)]; exact b6'
    have bk' : H1[k]? = some (.cells cs) := by rw [← hH1, List.getElem?_set_ne mk]; exact hk
    have bk : ∀ L : AHeap, (H1 ++ L)[k]? = some (.cells cs) := fun L => by rw [List.getElem?_append_left (by omega)]; exact bk'
    have b0 : ∀ (L : AHeap), (H1 ++ L)[H.length]? = L[0]? := fun L => by rw [← l1, app_get0]
    have bL : ∀ (L : AHeap) j, (H1 ++ L)[H.length + j]? = L[j]? := fun L j => by rw [← l1, app_get]
    have to1 : ∀ LP, HOk LP H → HOk LP H1 := fun LP h => by rw [← hH1]; exact h.set (by rw [eB]; exact mapB_bnd _)
    have hd0 : List.drop 4 [[I 0, I 0, I 0, I 0]].flatten = [] := rfl
    simp only [↓S_appB, Nat.add_zero, sm, hd0, hB', hH1, b6, b0, hyl, gy, List.getD_cons_zero, List.getD_cons_succ, vec_eq, List.append_assoc, List.cons_append, List.nil_append, List.length_append, List.length_cons, List.length_nil, List.getElem?_cons_succ, List.getElem?_cons_zero, List.set_cons_succ, List.set_cons_zero, go_sem, Nat.reduceEqDiff, Nat.reduceAdd, Nat.reduceLT, Nat.reduceLeDiff, reduceIte, reduceCtorEq]
    obtain ⟨HX, hHX⟩ : ∃ HX, H1 ++ [Blk.cells (mI y), Blk.cells [I 0, I 0, I 0, I 0], Blk.cells (mI y)] = HX := ⟨_, rfl⟩
    have lX : HX.length = H.length + 3 := by rw [← hHX, List.length_append, l1]; rfl
    have x6 : HX[c6]? = some (.cells [.own k off (es.length - i) (es.length - i) 4]) := by rw [← hHX]; exact b6 _
    have xk : HX[k]? = some (.cells cs) := by rw [← hHX]; exact bk _
    have xm : HX[mi]? = some B' := by rw [← hHX, List.getElem?_append_left (by omega)]; exact bm
    have x5 : HX[c5]? = some (.cells [.mp mi]) := by rw [← hHX, List.getElem?_append_left (by omega)]; exact b5
    have xn : HX[H1.length + 2]? = some (.cells (mI y)) := by rw [← hHX, app_get]; rfl
    have xl : ∀ j, j < H.length → j ≠ mi → HX[j]? = H[j]? := fun j hj hm => by rw [← hHX, List.getElem?_append_left (by omega), ← hH1, List.getElem?_set_ne (Ne.symm hm)]
    have okX : ∀ LP, HOk LP H → HOk LP HX := fun LP h => by
      have := (((to1 LP h).pushI y).pushI [0, 0, 0, 0]).pushI y
      rw [← hHX]
      rw [List.append_assoc, List.append_assoc] at this
      exact this
    have hsx : srcA 4 (.own (H1.length + 2) 0 1 1 4) HX = some (1, mI y, 0 + 1 * 4 ≤ (mI y).length ∧ ∀ u ∈ mI y, u.isCell = true) := by
      simp [srcA, xn, List.take_of_length_le, hyl]
    have hcell : ∀ u ∈ (cs.drop off).take ((es.length - i) * 4), u.isCell = true := by rw [hcs]; exact List.all_eq_true.1 (allI_cell _)
    have blk : ∀ {LP : Nat → Fr → Prop} {N j : Nat} {xs : List AVal}, blkN LP N j (.cells cs) → (∀ u ∈ xs, u ∈ cs ∨ u ∈ mI y) → blkN LP N j (.cells xs) := fun {LP N j xs} h hx => by
      have h : (bndL 0 cs || cs.all (vid N 2)) = true := h
      show (bndL 0 xs || xs.all (vid N 2)) = true
      rw [Bool.or_eq_true] at h ⊢
      have hyb : ∀ u ∈ mI y, u.bnd 0 = true ∧ vid N 2 u = true := fun u hu => by obtain ⟨z, _, rfl⟩ := List.mem_map.1 hu; exact ⟨rfl, rfl⟩
      rcases h with h | h
      · exact .inl (bndL_of fun u hu => (hx u hu).elim (bndL_mem h u) fun hu => (hyb u hu).1)
      · exact .inr (List.all_eq_true.2 fun u hu => (hx u hu).elim (List.all_eq_true.1 h u) fun hu => (hyb u hu).2)
    have upE : addE Y d es y = es ++ [(y, Y, d + 1)] := by unfold addE; rw [hh, if_neg (by decide)]
    have enl : (es ++ [(y, Y, d + 1)]).length - i = es.length - i + 1 := by rw [List.length_append]; simp; omega
    have enq : qF i (es ++ [(y, Y, d + 1)]) = qF i es ++ y := qF_snoc (by omega) _
    rw [hHX, show H1.length + 3 = HX.length by rw [lX, l1]]
    refine ⟨acy, ⟨by decide, by omega⟩, by omega, alA_grow hsx ⟨by omega, List.all_eq_true.1 acy⟩ (by decide) xk hfit hcell (by omega) ?_ ?_⟩
    · obtain ⟨cs', hcs'⟩ : ∃ cs', cs.take (off + (es.length - i) * 4) ++ mI y ++ cs.drop (off + (es.length - i) * 4 + 1 * 4) = cs' := ⟨_, rfl⟩
      have hg := grow_in (rest := cs.drop (off + (es.length - i) * 4 + 1 * 4)) hfit hcs hy
      rw [hcs'] at hg ⊢
      have y6 : (HX.set k (.cells cs'))[c6]? = some (.cells [.own k off (es.length - i) (es.length - i) 4]) := by rw [List.getElem?_set_ne k6]; exact x6
      simp only [y6, go_sem, Nat.reduceEqDiff, Nat.reduceAdd, Nat.reduceLT, Nat.reduceLeDiff, reduceIte, reduceCtorEq]
      have okF : ∀ LP, HOk LP H → HOk LP ((HX.set k (.cells cs')).set c6 (.cells [.own k off (es.length - i + 1) (es.length - i + 1) 4])) := fun LP h => by
        refine (((okX LP h).set (blk ?_ fun u hu => ?_)).set ?_)
        · exact (okX LP h) k _ xk
        · rw [← hcs'] at hu
          rcases List.mem_append.1 hu with hu | hu
          · exact (List.mem_append.1 hu).imp (fun h => List.mem_of_mem_take h) id
          · exact .inl (List.mem_of_mem_drop hu)
        · simp [blkN, vid, lX]; omega
      refine leafN0 (LP := LPb H.length) (okF _ hok) (fun _ _ h => h) (by simp [lX]) ⟨rfl, (es ++ [(y, Y, d + 1)], k), upE.symm, ⟨?_, okF, by simp [lX], fun j hj hm => ?_, fun j hj => .inl hj⟩⟩
      · refine ⟨?_, ?_, ⟨off, cs', ?_, ?_, by rw [enl]; exact hg.1, by rw [enl, enq]; exact hg.2⟩, k5, k6⟩
        · rw [List.getElem?_set_ne (Ne.symm c56), List.getElem?_set_ne k5]; exact x5
        · rw [List.getElem?_set_ne (Ne.symm m6), List.getElem?_set_ne (Ne.symm mk), xm, eB]
        · rw [enl, List.getElem?_set_self (by simp [lX]; omega)]
        · rw [List.getElem?_set_ne (Ne.symm k6), List.getElem?_set_self (by omega)]
      · have hm : ¬ (j = c5 ∨ j = c6 ∨ j = mi ∨ j = k) := hm
        rw [not_or, not_or, not_or] at hm
        rw [List.getElem?_set_ne (Ne.symm hm.2.1), List.getElem?_set_ne (Ne.symm hm.2.2.2), xl j hj hm.2.2.1]
    · obtain ⟨cs', hcs'⟩ : ∃ cs', (cs.drop off).take ((es.length - i) * 4) ++ mI y = cs' := ⟨_, rfl⟩
      have ecs : cs' = mI (qF i es ++ y) := by rw [← hcs', hcs]; exact List.map_append.symm
      have ecl : cs'.length = (es.length - i + 1) * 4 := by
        rw [← hcs', List.length_append, List.length_take, List.length_drop, hyl]; omega
      rw [hcs']
      have y6 : (HX.set k Blk.dead ++ [Blk.cells cs'])[c6]? = some (.cells [.own k off (es.length - i) (es.length - i) 4]) := by rw [List.getElem?_append_left (by simp; omega), List.getElem?_set_ne k6]; exact x6
      simp only [y6, go_sem, Nat.reduceEqDiff, Nat.reduceAdd, Nat.reduceLT, Nat.reduceLeDiff, reduceIte, reduceCtorEq]
      have okF : ∀ LP, HOk LP H → HOk LP ((HX.set k Blk.dead ++ [Blk.cells cs']).set c6 (.cells [.own HX.length 0 (es.length - i + 1) (es.length - i + 1) 4])) := fun LP h => by
        refine (((okX LP h).set (i := k) (b := .dead) trivial).push (b := Blk.cells cs') ?_).set ?_
        · rw [ecs]; simp [blkN, mI_bnd]
        · simp [blkN, vid]
      refine leafN0 (LP := LPb H.length) (okF _ hok) (fun _ _ h => h) (by simp [lX]; omega) ⟨rfl, (es ++ [(y, Y, d + 1)], HX.length), upE.symm, ⟨?_, okF, by simp [lX]; omega, fun j hj hm => ?_, fun j hj => ?_⟩⟩
      · refine ⟨?_, ?_, ⟨0, cs', ?_, ?_, by rw [enl, ecl]; omega, ?_⟩, by show HX.length ≠ c5; omega, by show HX.length ≠ c6; omega⟩
        · rw [List.getElem?_set_ne (Ne.symm c56), List.getElem?_append_left (by simp; omega), List.getElem?_set_ne k5]; exact x5
        · rw [List.getElem?_set_ne (Ne.symm m6), List.getElem?_append_left (by simp; omega), List.getElem?_set_ne (Ne.symm mk), xm, eB]
        · rw [enl, List.getElem?_set_self (by simp [lX]; omega)]
        · show ((HX.set k Blk.dead ++ [Blk.cells cs']).set c6 _)[HX.length]? = _
          rw [List.getElem?_set_ne (by omega), List.getElem?_append_right (by simp)]; simp
        · rw [enl, enq, List.drop_zero, List.take_of_length_le (by omega)]; exact ecs
      · have hm : ¬ (j = c5 ∨ j = c6 ∨ j = mi ∨ j = k) := hm
        rw [not_or, not_or, not_or] at hm
        rw [List.getElem?_set_ne (Ne.symm hm.2.1), List.getElem?_append_left (by simp; omega), List.getElem?_set_ne (Ne.symm hm.2.2.2), xl j hj hm.2.2.1]
      · have hj : j = c5 ∨ j = c6 ∨ j = mi ∨ j = HX.length := hj
        rcases hj with h | h | h | h
        · exact .inl (.inl h)
        · exact .inl (.inr (.inl h))
        · exact .inl (.inr (.inr (.inl h)))
        · exact .inr (by omega)
/-- The search, so far: the first i of what is found have been asked for their neighbours. -/
inductive Sr (bs : List (List Int)) (X : List Int) (st : List Int → Bool) : List Ent → Nat → Prop
  | start : Sr bs X st [(X, X, 0)] 0
  | step {es : List Ent} {i : Nat} {Y f : List Int} {d : Nat} (h : Sr bs X st es i) (hi : es[i]? = some (Y, f, d)) (hs : st Y = false) : Sr bs X st ((nearL Y bs).foldl (addE Y d) es) (i + 1)
theorem addE_pre (Y : List Int) (d : Nat) (es : List Ent) (y : List Int) : ∃ t, addE Y d es y = es ++ t := by
  unfold addE
  split
  · exact ⟨[], by simp⟩
  · exact ⟨_, rfl⟩
theorem foldE_pre (Y : List Int) (d : Nat) : ∀ (l : List (List Int)) (es : List Ent), ∃ t, l.foldl (addE Y d) es = es ++ t
  | [], es => ⟨[], by simp⟩
  | y :: l, es => by
    obtain ⟨t, ht⟩ := addE_pre Y d es y
    obtain ⟨t', ht'⟩ := foldE_pre Y d l (addE Y d es y)
    exact ⟨t ++ t', by rw [List.foldl_cons, ht', ht, List.append_assoc]⟩
theorem addE_len {Y : List Int} {d : Nat} {es : List Ent} {y : List Int} (hY : Y.length = 4) (hy : y.length = 4) (h : ∀ e ∈ es, e.1.length = 4 ∧ e.2.1.length = 4) : ∀ e ∈ addE Y d es y, e.1.length = 4 ∧ e.2.1.length = 4 := by
  intro e he
  unfold addE at he
  split at he
  · exact h e he
  · rcases List.mem_append.1 he with he | he
    · exact h e he
    · simp at he; subst he; exact ⟨hy, hY⟩
theorem foldE_len {Y : List Int} {d : Nat} (hY : Y.length = 4) : ∀ {l : List (List Int)} {es : List Ent}, (∀ y ∈ l, y.length = 4) → (∀ e ∈ es, e.1.length = 4 ∧ e.2.1.length = 4) → ∀ e ∈ l.foldl (addE Y d) es, e.1.length = 4 ∧ e.2.1.length = 4
  | [], _, _, h => h
  | y :: l, _, hl, h => by
    rw [List.foldl_cons]
    exact foldE_len hY (fun z hz => hl z (by simp [hz])) (addE_len hY (hl y (by simp)) h)
theorem nearL_len {Y : List Int} {bs : List (List Int)} (hY : Y.length = 4) (h4 : ∀ m ∈ bs, m.length = 4) : ∀ y ∈ nearL Y bs, y.length = 4 := fun y hy => by
  obtain ⟨hy1, -⟩ := List.mem_filter.1 hy
  obtain ⟨m, hm, rfl⟩ := List.mem_map.1 hy1
  exact plusV_len hY (h4 m hm)
section
variable {bs : List (List Int)} {X : List Int} {st : List Int → Bool} {es : List Ent} {i : Nat}
theorem Sr.len (hX : X.length = 4) (h4 : ∀ m ∈ bs, m.length = 4) (h : Sr bs X st es i) : ∀ e ∈ es, e.1.length = 4 ∧ e.2.1.length = 4 := by
  induction h with
  | start => intro e he; simp at he; subst he; exact ⟨hX, hX⟩
  | step h hi hs ih =>
    have hY := (ih _ (List.mem_of_getElem? hi)).1
    exact foldE_len hY (nearL_len hY h4) ih
theorem Sr.le (h : Sr bs X st es i) : i ≤ es.length := by
  induction h with
  | start => simp
  | step h hi hs ih =>
    obtain ⟨t, ht⟩ := foldE_pre _ _ (nearL _ bs) _
    rw [ht, List.length_append]
    have := (List.getElem?_eq_some_iff.1 hi).1
    omega
end
theorem Wk.oneM {H : AHeap} {fr fr' : Fr} {es : List (AVal × AVal)} {j : Nat} (h : H[j]? = some (.map es)) (hb : (es.all fun p => p.1.bnd 0 && p.2.bnd 0) = true) (hf : fle H [some j] [j] fr fr') : Wk 0 [] [some j] fr H fr' [.map es] :=
  Wk.mk0 rfl (by simp [imgs, Blk.alive]) (by simp only [hle]; exact ⟨⟨hb, by simpa using h⟩, trivial⟩) (by simpa [imgs, Blk.alive] using hf)
/-- How it lies between two rounds. -/
structure LSt (tc : List AVal) (i c6 : Nat) (es : List Ent) (H : AHeap) : Prop where
  ok : HOk (LPb 0) H
  h0 : H[0]? = some (.cells tc)
  h5 : H[2]? = some (.cells [.mp 1])
  hm : H[1]? = some (.map (es.map entA))
  has : i < es.length → ∃ k, RSt 2 c6 1 i k es H ∧ k ≠ 0
  out : i = es.length → H[c6]? = some (Blk.cells [.sl false false []])
  c0 : 2 < c6
set_option maxRecDepth 20000 in
set_option maxHeartbeats 4000000 in
theorem s69 (rows : List (List Int)) (n : Int) (bs : List (List Int)) (X : List Int) (fvs : AVal) (st : List Int → Bool) (hX : X.length = 4) (h4 : ∀ m ∈ bs, m.length = 4) (hbl : bs.length ≤ 2000000) (bb : ∀ m ∈ bs, Sp.inB 16 m)
    (hfv : ∀ N, vid N 3 fvs = true) (hst : ∀ (y : List Int) (H : AHeap), y.length = 4 → CallV Try.prog fvs [.agg (mI y)] H fun v H' => v = B (st y) ∧ H' = H)
    (hbnd : ∀ es i, Sr bs X st es i → es.length ≤ 34359738367 ∧ ∀ e ∈ es, Sp.inB 90000 e.1) :
    Abs.Spec Try.prog 69 [taskV rows n bs X, fvs] [] fun v H' => ∃ es i, Sr bs X st es i ∧ (i = es.length ∨ ∃ Y f d, es[i]? = some (Y, f, d) ∧ st Y = true) ∧ v = .mp 0 ∧ H' = [.map (es.map entA)] := by
  refine Abs.Spec.walk mixed fn69 nn69 t69 q69 nt69 (by simp) ?_
  have hXl : (mI X).length = 4 := by rw [mI_length, hX]
  have gX : cut true 4 (mI X) = vec X := cut_vec hX
  have acX := allI_cell X
  have kX := keyI_vec hX
  have mf0 : mfind 4 X [] 0 = some none := rfl
  have hd0 : List.drop 4 [[I 0, I 0, I 0, I 0]].flatten = [] := rfl
  obtain ⟨tc, htc⟩ : ∃ tc, AVal.sl false false (mV rows) :: I n :: .sl false false (mV bs) :: mI X = tc := ⟨_, rfl⟩
  have htl : tc.length = 7 := by rw [← htc]; simp [hXl]
  have hd3 : List.drop 3 tc = mI X := by rw [← htc]; rfl
  have htA : tc.all AVal.isCell = true := by rw [← htc]; show (true && (true && (true && (mI X).all AVal.isCell))) = true; rw [acX]; rfl
  have gT : cut true 7 tc = taskV rows n bs X := by
    show AVal.agg (List.take 7 _) = _
    rw [List.take_of_length_le (by omega), ← htc]; rfl
  simp only [w69, taskV_eq, htc, htl, hd3, hd0, hXl, gX, kX, mf0, vec_eq, List.flatMap_nil, List.getElem?_cons_succ, List.getElem?_cons_zero, List.set_cons_succ, List.set_cons_zero, go_sem, Nat.reduceEqDiff, Nat.reduceAdd, Nat.reduceLT, Nat.reduceLeDiff, reduceIte, reduceCtorEq]
  have htb : bndL 0 tc = true := by rw [← htc]; simp [bndL, AVal.bnd, mV_bnd, mI_bnd]
  have ok0 : HOk (LPb 0) [Blk.cells tc, Blk.map [(agg (mI X), agg (mI X))], Blk.cells [mp 1], Blk.cells (mI X), Blk.cells [own 3 0 1 1 4]] := fun j b hj => by
    rcases j with _ | _ | _ | _ | _ | j
    · cases hj; simp [blkN, htb]
    · cases hj; simp [blkN, AVal.bnd, mI_bnd]
    · cases hj; simp [blkN, vid]
    · cases hj; simp [blkN, mI_bnd]
    · cases hj; simp [blkN, vid]
    · simp at hj
  have st0 : LSt tc 0 4 [(X, X, 0)] [Blk.cells tc, Blk.map [(agg (mI X), agg (mI X))], Blk.cells [mp 1], Blk.cells (mI X), Blk.cells [own 3 0 1 1 4]] :=
    ⟨ok0, rfl, rfl, rfl, fun _ => ⟨3, ⟨rfl, rfl, ⟨0, mI X, rfl, rfl, by simp [hXl], by simp [qF, hXl, List.take_of_length_le]⟩, by decide, by decide⟩, by decide⟩, fun h => by simp at h, by decide⟩
  refine ⟨htA, W_loop (fun s : { s : Nat × Nat × List Ent × AHeap // Sr bs X st s.2.2.1 s.1 ∧ LSt tc s.1 s.2.1 s.2.2.1 s.2.2.2 } => ([(1, fvs), (2, .ptr 0 0), (5, .ptr 2 0), (6, .ptr s.1.2.1 0)], s.1.2.2.2)) (fun s => 34359738368 - s.1.1) ⟨(0, 4, [(X, X, 0)], _), .start, st0⟩ (idρ _) (Wk.ok (LP := LPb 0) ok0 (fun _ _ h => h) (by simp) (by
      simp only [List.mem_cons, List.not_mem_nil, or_false, forall_eq_or_imp, forall_eq]
      exact ⟨⟨rfl, hfv _⟩, ⟨rfl, rfl⟩, ⟨rfl, rfl⟩, rfl, rfl⟩) fun _ h => by cases h) ?_⟩
  rintro ⟨⟨i, c6, es, H⟩, hS, hL⟩
  dsimp only at hS hL ⊢
  have hlen := hS.len hX h4
  have hle := hS.le
  obtain ⟨hB1, hB2⟩ := hbnd es i hS
  have l5 := (List.getElem?_eq_some_iff.1 hL.h5).1
  have fin : ∀ {fr : Fr}, fr.get 5 = .ptr 2 0 → (i = es.length ∨ ∃ Y f d, es[i]? = some (Y, f, d) ∧ st Y = true) → W ⟨Try.prog, 0, 34, true⟩ (retA 0 r69 fun v H' => ∃ es i, Sr bs X st es i ∧ (i = es.length ∨ ∃ Y f d, es[i]? = some (Y, f, d) ∧ st Y = true) ∧ v = .mp 0 ∧ H' = [.map (es.map entA)]) c69T1 [] fr H [] := fun {fr} h5 hend => by
    have g5 := hL.h5
    simp only [w69T1, h5, g5, go_sem, Nat.reduceEqDiff, Nat.reduceAdd, Nat.reduceLT, Nat.reduceLeDiff, reduceIte, reduceCtorEq]
    exact leafO (.mp 0) [.map (es.map entA)] [some 1] (Wk.oneM hL.hm (mapB_bnd es) (by simp [fle, vle, Fr.get])) ⟨es, i, hS, hend, rfl, rfl⟩
  by_cases hie : i = es.length
  · have g6 := hL.out hie
    have d0 : decide (((0 : Nat) : Int) > 0) = false := rfl
    simp only [w69L0, g6, d0, go_sem, Nat.reduceEqDiff, Nat.reduceAdd, Nat.reduceLT, Nat.reduceLeDiff, reduceIte, reduceCtorEq]
    refine fin ?_ (.inl hie)
    rfl
  · have hil : i < es.length := by omega
    obtain ⟨k, hR, hk0⟩ := hL.has hil
    obtain ⟨off, cs, hc6, hk, hfit, hcs⟩ := hR.hq
    obtain ⟨⟨Y, f, d⟩, hY⟩ : ∃ e, es[i]? = some e := ⟨_, List.getElem?_eq_getElem hil⟩
    have hYl := (hlen _ (List.mem_of_getElem? hY)).1
    have hYl : Y.length = 4 := hYl
    have bY : Sp.inB 90000 Y := hB2 _ (List.mem_of_getElem? hY)
    have hq0 : (cs.drop off).take 4 = mI Y := by
      have := congrArg (List.take 4) hcs
      rw [List.take_take, show min 4 ((es.length - i) * 4) = 4 by omega, qF_head hY] at this
      rw [this]
      show List.take 4 (mI (Y ++ qF (i + 1) es)) = mI Y
      rw [show mI (Y ++ qF (i + 1) es) = mI Y ++ mI (qF (i + 1) es) from List.map_append, List.take_append_of_le_length (by rw [mI_length, hYl]; exact Nat.le_refl _), List.take_of_length_le (by rw [mI_length, hYl]; exact Nat.le_refl _)]
    have gY : cut true 4 (cs.drop off) = vec Y := by
      show AVal.agg (List.take 4 _) = _
      rw [hq0]; rfl
    have h0 := hL.h0
    have d1 : decide ((((es.length - i : Nat) : Int)) > 0) = true := decide_eq_true (by omega)
    simp only [w69L0, ↓reduceIte, Nat.add_zero, hc6, hk, h0, gY, gT, htl, d1, vec_eq, go_sem, Nat.reduceEqDiff, Nat.reduceAdd, Nat.reduceLT, Nat.reduceLeDiff, reduceIte, reduceCtorEq]
    refine ⟨⟨by decide, by omega⟩, by omega, CallK.pure (hst Y H hYl) ?_⟩
    cases hsY : st Y with
    | true =>
      simp only [go_sem, Nat.reduceEqDiff, Nat.reduceAdd, Nat.reduceLT, Nat.reduceLeDiff, reduceIte, reduceCtorEq]
      refine fin ?_ (.inr ⟨Y, f, d, hY, hsY⟩)
      rfl
    | false =>
      simp only [↓reduceIte, Nat.add_zero, hc6, hk, h0, gY, gT, htl, taskV_eq, vec_eq, go_sem, Nat.reduceEqDiff, Nat.reduceAdd, Nat.reduceLT, Nat.reduceLeDiff, reduceIte, reduceCtorEq]
      have hS' := hS.step hY hsY
      obtain ⟨hB1', -⟩ := hbnd _ _ hS'
      have lt : ∀ {H : AHeap} {j b}, H[j]? = some b → j < H.length := fun hj => (List.getElem?_eq_some_iff.1 hj).1
      have l6 := lt hc6
      have l0 := lt h0
      have m1 := lt hL.hm
      refine ⟨⟨by decide, by omega⟩, by omega, CallKD.by (CallV.of_spec (first := []) (cap := []) (s105c (f106_ok 2 c6 1 i Y d) H (es, k) rows n bs Y X hYl hX h4 hbl bY bb hR (by simp [vid]; omega) (hL.ok.mono fun _ _ h => h.mono (by omega)) fun pre y post hp => ?_)) fun v H2 ⟨hv, ⟨es2, k2⟩, hv2, hto⟩ => ?_⟩
      · have hmem : y ∈ nearL Y bs := by rw [hp]; simp
        obtain ⟨t, ht⟩ := foldE_pre Y d pre es
        have hpl : ∀ z ∈ pre, z.length = 4 := fun z hz => nearL_len hYl h4 z (by rw [hp]; simp [hz])
        refine ⟨nearL_len hYl h4 y hmem, hYl, ⟨(f, d), ?_⟩, foldE_len hYl hpl hlen, ?_⟩
        · show (pre.foldl (addE Y d) es)[i]? = _
          rw [ht, List.getElem?_append_left hil]; exact hY
        · show (pre.foldl (addE Y d) es).length < _
          have e : (nearL Y bs).foldl (addE Y d) es = (y :: post).foldl (addE Y d) (pre.foldl (addE Y d) es) := by rw [hp, List.foldl_append]
          obtain ⟨t', ht'⟩ := foldE_pre Y d (y :: post) (pre.foldl (addE Y d) es)
          rw [e, ht', List.length_append] at hB1'
          omega
      · subst hv
        have hv2 : es2 = (nearL Y bs).foldl (addE Y d) es := hv2
        rw [← hv2] at hS' hB1'
        obtain ⟨t, ht⟩ := foldE_pre Y d (nearL Y bs) es
        rw [← hv2] at ht
        have hR2 : RSt 2 c6 1 i k2 es2 H2 := hto.ok
        obtain ⟨off2, cs2, hc62, hk2, hfit2, hcs2⟩ := hR2.hq
        have hil2 : i < es2.length := by rw [ht, List.length_append]; omega
        have hY2 : es2[i]? = some (Y, f, d) := by rw [ht, List.getElem?_append_left hil]; exact hY
        have hc6' := hL.c0
        have nm0 : ∀ j, j < H.length → j ≠ 2 → j ≠ c6 → j ≠ 1 → j ≠ k → H2[j]? = H[j]? := fun j hj a1 a2 a3 a4 => hto.kept j hj fun hm => by
          have hm : j = 2 ∨ j = c6 ∨ j = 1 ∨ j = k := hm
          omega
        have h02 : H2[0]? = some (.cells tc) := by rw [nm0 0 l0 (by decide) (by omega) (by decide) (Ne.symm hk0)]; exact h0
        have ok2 : HOk (LPb 0) H2 := hto.hok _ hL.ok
        have l2 := hto.len
        have k20 : k2 ≠ 0 := fun e => by
          have := hto.own k2 (.inr (.inr (.inr rfl)))
          have this : (k2 = 2 ∨ k2 = c6 ∨ k2 = 1 ∨ k2 = k) ∨ H.length ≤ k2 := this
          omega
        have lk2 := lt hk2
        have l62 := lt hc62
        have c62 : ∀ L : AHeap, (H2 ++ L)[c6]? = some (.cells [.own k2 off2 (es2.length - i) (es2.length - i) 4]) := fun L => by rw [List.getElem?_append_left l62]; exact hc62
        have cond : ((1 : Int) = ((es2.length - i : Nat) : Int) ∧ (0 : Int) < 1) ↔ es2.length - i = 1 := by constructor <;> omega
        simp only [↓reduceIte, Nat.add_zero, hc62, c62, app_get, app_get0, app_set, app_set0, List.append_assoc, List.cons_append, List.nil_append, List.length_append, List.length_cons, List.length_nil, List.getElem?_cons_succ, List.getElem?_cons_zero, List.set_cons_succ, List.set_cons_zero, go_sem, Nat.reduceEqDiff, Nat.reduceAdd, Nat.reduceLT, Nat.reduceLeDiff, reduceIte, reduceCtorEq]
        have z01 : ((0 : Int) < 1) = True := by simp
        have tn1 : Int.toNat 1 = 1 := rfl
        have qn : (cs2.drop (off2 + 4)).take ((es2.length - (i + 1)) * 4) = mI (qF (i + 1) es2) := by
          have := congrArg (List.drop 4) hcs2
          rw [List.drop_take, List.drop_drop, qF_head hY2] at this
          have e : List.drop 4 (mI (Y ++ qF (i + 1) es2)) = mI (qF (i + 1) es2) := by
            rw [show mI (Y ++ qF (i + 1) es2) = mI Y ++ mI (qF (i + 1) es2) from List.map_append, List.drop_left' (by rw [mI_length, hYl])]
          rw [show (es2.length - (i + 1)) * 4 = (es2.length - i) * 4 - 4 by omega, this]
          exact e
        have okF : ∀ (v : AVal), vid (H2.length + 1) 2 v = true → HOk (LPb 0) (H2 ++ [Blk.cells [v]]) := fun v hv => ok2.push (by simp [blkN, hv])
        have back : ∀ {fr : Fr} (v : AVal), vid (H2.length + 1) 2 v = true → fr.get 1 = fvs → fr.get 2 = .ptr 0 0 → fr.get 5 = .ptr 2 0 → fr.get 6 = .ptr H2.length 0 → (i + 1 < es2.length → v = .own k2 (off2 + 4) (es2.length - (i + 1)) (es2.length - (i + 1)) 4) → (i + 1 = es2.length → v = .sl false false []) → 
            KQ ⟨Try.prog, 0, 34, true⟩ (retA 0 r69 fun v H' => ∃ es i, Sr bs X st es i ∧ (i = es.length ∨ ∃ Y f d, es[i]? = some (Y, f, d) ∧ st Y = true) ∧ v = .mp 0 ∧ H' = [.map (es.map entA)]) .norm [.loop [] (fun s : { s : Nat × Nat × List Ent × AHeap // Sr bs X st s.2.2.1 s.1 ∧ LSt tc s.1 s.2.1 s.2.2.1 s.2.2.2 } => ([(1, fvs), (2, .ptr 0 0), (5, .ptr 2 0), (6, .ptr s.1.2.1 0)], s.1.2.2.2)) (fun s => 34359738368 - s.1.1) ⟨(i, c6, es, H), hS, hL⟩, .block 0, .seq c69T1] fr (H2 ++ [Blk.cells [v]]) [] := fun {fr} v hvv f1 f2 f5 f6 hv1 hv0 => by
          have lt2 : ∀ {j b}, H2[j]? = some b → (H2 ++ [Blk.cells [v]])[j]? = some b := fun {j b} hj => by rw [List.getElem?_append_left (lt hj)]; exact hj
          have hL' : LSt tc (i + 1) H2.length es2 (H2 ++ [Blk.cells [v]]) := ⟨okF v hvv, lt2 h02, lt2 hR2.h5, lt2 hR2.hm, fun hlt => ⟨k2, ⟨lt2 hR2.h5, lt2 hR2.hm, ⟨off2 + 4, cs2, by rw [hv1 hlt, app_get0]; rfl, lt2 hk2, by omega, qn⟩, hR2.k5, by omega⟩, k20⟩, fun he => by rw [hv0 he, app_get0]; rfl, by omega⟩
          refine roundN (LP := LPb 0) (okF v hvv) (fun _ _ h => h) (Nat.zero_le _) ⟨(i + 1, H2.length, es2, _), hS', hL'⟩ (by dsimp only; omega) rfl ?_
          dsimp only
          simp only [List.mem_cons, List.not_mem_nil, or_false, forall_eq_or_imp, forall_eq]
          refine ⟨⟨f1, hfv _⟩, ⟨f2, ?_⟩, ⟨f5, ?_⟩, f6, ?_⟩ <;> simp [vid] <;> omega
        by_cases h1 : es2.length - i = 1
        · have e1 : ((es2.length - i : Nat) : Int) = 1 := by omega
          simp only [e1, z01, app_get, app_get0, app_set, app_set0, go_sem, Nat.reduceEqDiff, Nat.reduceAdd, Nat.reduceLT, Nat.reduceLeDiff, reduceIte, reduceCtorEq]
          refine back _ rfl rfl rfl rfl rfl (fun h => by omega) fun _ => rfl
        · have e1 : ((1 : Int) = ((es2.length - i : Nat) : Int)) = False := by simp; omega
          simp only [e1, z01, tn1, false_and, app_get, app_get0, app_set, app_set0, go_sem, Nat.reduceEqDiff, Nat.reduceAdd, Nat.reduceLT, Nat.reduceLeDiff, reduceIte, reduceCtorEq]
          refine ⟨⟨by decide, by omega, .inr (by omega)⟩, ?_⟩
          refine back _ (by simp [vid]; omega) rfl rfl rfl rfl (fun h => by rw [Nat.sub_sub]) fun h => by omega
end Go.Proofs.Ytipfjfmdjmaflaa
