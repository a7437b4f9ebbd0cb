/- Contracts: the reference's Basic. -/
import Derived.Test.YtipfjfmdjmaflaaMX
import Derived.Test.YtipfjfmdjmaflaaM3
import Derived.Test.YtipfjfmdjmaflaaAN
import Derived.Test.YtipfjfmdjmaflaaMQ
namespace Go.Proofs.Ytipfjfmdjmaflaa
open Go.Abs AVal
set_option linter.unusedSimpArgs false
attribute [local go_sem] W_skip W_keep KQ_canon canon Fr.norm W_seq W_block W_scope W_exit W_ret W_ops W_draw KQ_nil KQ_norm_seq KQ_exit_seq KQ_ret_seq KQ_norm_block KQ_ret_block KQ_exit_block KQ_exit_loop KQ_ret_loop O_nil O_cons S_call S_mv SE_mv SD_mv S_pick SE_pick SD_pick S_bin SE_bin SD_bin S_eqb SE_eqb SD_eqb S_eqv SE_eqv SD_eqv S_eqnil SE_eqnil SD_eqnil S_un SE_un SD_un S_conv SE_conv SD_conv S_mkfn SE_mkfn SD_mkfn S_load SE_load SD_load S_nilck SE_nilck SD_nilck S_slS SE_slS SD_slS S_slP SE_slP SD_slP S_fldA SE_fldA SD_fldA S_fld SE_fld SD_fld S_ixS SE_ixS SD_ixS S_ixP SE_ixP SD_ixP S_ixV SE_ixV SD_ixV S_ixStr SE_ixStr SD_ixStr S_ext SE_ext SD_ext S_len SE_len SD_len S_lenStr SE_lenStr SD_lenStr S_lenc SE_lenc SD_lenc S_mn SE_mn SD_mn S_mx SE_mx SD_mx S_build SE_build SD_build S_alloc SD_alloc S_box SD_box S_bslice SD_bslice S_mksl SD_mksl S_store SD_store S_append SD_append S_copy SD_copy S_clr SD_clr S_mlen SE_mlen SD_mlen S_mget SE_mget SD_mget S_mval SE_mval SD_mval S_mentry SE_mentry SD_mentry S_mkmap SD_mkmap S_mset SD_mset S_mrange SD_mrange S_mnext mlenA mgetA mvalA mentryA msetA mrangeA cells_mp isCell_mp cellsOk_mp aq_some aa_some al_some alA_some aqd_some aad_some ald_some ape_some D_done D_both D_early D_step SE_call SD_call IOpd.ev Fr.get Fr.put Fr.putd entryFr pickA binA binI isSh shI eqbA eqvA ints ints_mI Option.map_some eqnilA unA convA loadA nilckA intA slSA slPA fldAA fldVA ixSA ixPA ixVA ixStrA extA lenA lenStrA mnA mxA AVal.fits fillA fillOk buildA opa srcA appA stoA copA clrA rdFree zeros List.length_nil List.length_cons List.length_map List.map_cons List.map_nil Option.map_some Option.map_none if_true if_false ite_true ite_false true_and and_true and_self implies_true forall_const true_implies Bool.false_eq_true Bool.not_true Bool.not_false decide_eq_true_eq decide_eq_false_iff_not eq_self List.getElem?_cons_zero List.getElem?_cons_succ List.getElem?_nil List.set_cons_zero List.set_cons_succ List.nil_append List.cons_append List.append_nil List.replicate_zero List.replicate_succ Nat.zero_add false_implies rng_lt rng_end rng_get cells_I cells_B cells_sl cut_one Int.toNat_natCast Int.natCast_nonneg List.headD_cons Int.lt_irrefl not_false_eq_true decide_false decide_true mI_length mI_cells mI_sz mI_isCell mI_mid mI_append mI_take mI_drop cells_val cells_own cells_agg isCell_I isCell_B isCell_nil isCell_sl isCell_own isCell_ptr isCell_fn isCell_rp isCell_yld cellsOk_I cellsOk_B cellsOk_nil cellsOk_sl cellsOk_own cellsOk_ptr cellsOk_fn cellsOk_rp cellsOk_yld cellsOk_agg cells_nil cells_ptr cells_fn cells_rp List.all_cons List.all_nil Bool.and_true Nat.mul_one Nat.zero_mul Nat.one_mul List.take_zero List.take_nil List.drop_nil List.drop_zero List.not_mem_nil Nat.le_refl Nat.zero_le mS_length mS_cells mS_sz mS_isCell mS_mid mS_append mS_take mS_drop cells_sI isCell_sI cellsOk_sI sI_eq succ_le_self' List.take_succ_cons List.drop_succ_cons List.take_length beq_self_eq_true List.mem_cons or_false forall_eq mI_put mI_rep O_guard' D_earlyG' D_stepG' W_cond' G_tt G_tf G_ft G_ff GE_tt GE_tf GE_ft GE_ff GS_tt GS_tf GS_ft GS_ff G_u GE_u GS_u IC_t IC_f xft xff xtt xtf z00 z20 z22 z02 zz tn0
/-- The place of a bucket in the table. -/
def tabv (ix : Nat → Nat) (bk : Nat → List (List Int)) (k : Nat) : AVal := if (bk k).length = 0 then nilSl else .own (ix k) 0 (bk k).length (bk k).length 1
def tabC (ix : Nat → Nat) (bk : Nat → List (List Int)) (K : Nat) : List AVal := (List.range K).map (tabv ix bk)
/-- The heap while the buckets are filled. -/
structure P1 (mv : List Int → Bool) (M n : Nat) (r : Int) (x : List Int) (ix : Nat → Nat) (bk : Nat → List (List Int)) (H : AHeap) : Prop where
  h0 : H[0]? = some (.cells (tabC ix bk (4 * M + 1)))
  h1 : H[1]? = some (.cells (mI x))
  hk : ∀ k, k < 4 * M + 1 → (bk k).length ≠ 0 → H[ix k]? = some (.cells (mS (bk k)))
  h2 : ∀ k, k < 4 * M + 1 → (bk k).length ≠ 0 → 2 ≤ ix k
  inj : ∀ k j, k < 4 * M + 1 → j < 4 * M + 1 → (bk k).length ≠ 0 → (bk j).length ≠ 0 → ix k = ix j → k = j
  ok : HOk (fun _ _ => False) H
  bu : ∀ k, k < 4 * M + 1 → Sp.Buck mv M n r k (bk k)
/-- Where the odometer stands, and the heap. -/
structure S1 (mv : List Int → Bool) (M n : Nat) : Type where
  done : Bool
  x : List Int
  r : Int
  ix : Nat → Nat
  bk : Nat → List (List Int)
  H : AHeap
  hx : x.length = n
  p : P1 mv M n r x ix bk H
  hd : done = false → Sp.inB M x ∧ Sp.odo M x = r
  he : done = true → r = (2 * (M : Int) + 1) ^ n
structure S3 (mv : List Int → Bool) (M n : Nat) (r : Int) (x : List Int) : Type where
  m : Nat
  ix : Nat → Nat
  bk : Nat → List (List Int)
  H : AHeap
  hm : m ≤ n
  p : P1 mv M n (r + 1) (x.take m ++ List.replicate (n - m) (-(M : Int))) ix bk H
  hd : x.drop m = List.replicate (n - m) (M : Int)
def atV : Nat → AVal
  | 0 => I (-1)
  | p + 1 => I p
theorem tab_nil (K : Nat) : tabC (fun _ => 0) (fun _ => []) K = List.replicate K nilSl := by
  rw [List.eq_replicate_iff]
  refine ⟨by simp [tabC], fun b hb => ?_⟩
  obtain ⟨k, -, rfl⟩ := List.mem_map.1 hb
  rfl
theorem tab_len (ix : Nat → Nat) (bk : Nat → List (List Int)) (K : Nat) : (tabC ix bk K).length = K := by simp [tabC]
theorem tab_hd {ix : Nat → Nat} {bk : Nat → List (List Int)} {k K : Nat} (h : k < K) : ((tabC ix bk K).drop k).headD any = tabv ix bk k := by
  rw [List.drop_eq_getElem_cons (by rw [tab_len]; exact h)]
  simp [tabC]
theorem rep_bnd {K : Nat} : bndL 0 (List.replicate K nilSl) = true := by
  induction K with
  | zero => rfl
  | succ K ih => rw [List.replicate_succ]; simp only [bndL, ih]; rfl
theorem fill_put {i n : Nat} (h : i < n) (v : Int) : List.take i (List.replicate i v ++ List.replicate (n - i) 0) ++ [v] ++ List.drop (i + 1) (List.replicate i v ++ List.replicate (n - i) 0) = List.replicate (i + 1) v ++ List.replicate (n - (i + 1)) 0 := by
  rw [List.take_left' (by simp), List.drop_append, List.drop_of_length_le (by simp), List.nil_append, List.replicate_succ' (n := i), List.drop_replicate]
  congr 2
  simp; omega
theorem P1.setx {mv : List Int → Bool} {M n : Nat} {r : Int} {x x' : List Int} {ix : Nat → Nat} {bk : Nat → List (List Int)} {H : AHeap} (h : P1 mv M n r x ix bk H) : P1 mv M n r x' ix bk (H.set 1 (.cells (mI x'))) :=
  ⟨by rw [List.getElem?_set_ne (by omega)]; exact h.h0, by rw [List.getElem?_set_self (List.getElem?_eq_some_iff.1 h.h1).1], fun k hk hb => by
    have := h.h2 k hk hb
    rw [List.getElem?_set_ne (by omega)]; exact h.hk k hk hb, h.h2, h.inj, h.ok.set (by simp [blkN, mI_bnd]), h.bu⟩
/-- One more bucket's element. -/
def upd1 {α : Type} (f : Nat → α) (k : Nat) (v : α) : Nat → α := fun j => if j = k then v else f j
theorem upd1_self {α : Type} {f : Nat → α} {k : Nat} {v : α} : upd1 f k v k = v := if_pos rfl
theorem upd1_ne {α : Type} {f : Nat → α} {k j : Nat} {v : α} (h : j ≠ k) : upd1 f k v j = f j := if_neg h
theorem tab_put {ix : Nat → Nat} {bk : Nat → List (List Int)} {k K N : Nat} {x : List Int} (h : k < K) : List.take k (tabC ix bk K) ++ .own N 0 ((bk k).length + 1) ((bk k).length + 1) 1 :: List.drop (k + 1) (tabC ix bk K) = tabC (upd1 ix k N) (upd1 bk k (bk k ++ [x])) K := by
  have e : List.take k (tabC ix bk K) ++ .own N 0 ((bk k).length + 1) ((bk k).length + 1) 1 :: List.drop (k + 1) (tabC ix bk K) = (tabC ix bk K).set k (.own N 0 ((bk k).length + 1) ((bk k).length + 1) 1) := by
    rw [List.set_eq_take_append_cons_drop, if_pos (by rw [tab_len]; exact h)]
  rw [e]
  refine List.ext_getElem (by simp [tab_len]) fun j h1 h2 => ?_
  rw [List.getElem_set]
  split
  · rename_i hj
    subst hj
    simp [tabC, tabv, upd1_self]
  · rename_i hj
    have hj' : j ≠ k := fun e => hj e.symm
    simp [tabC, tabv, upd1_ne hj']
theorem mS_snoc' {l : List (List Int)} {x : List Int} : mS l ++ [.sl false false (mI x)] = mS (l ++ [x]) := by simp [mS, sI]
theorem tab_vid {ix : Nat → Nat} {bk : Nat → List (List Int)} {K N : Nat} (h : ∀ k, k < K → (bk k).length ≠ 0 → ix k < N) : (tabC ix bk K).all (vid N 2) = true := by
  rw [List.all_eq_true]
  intro v hv
  obtain ⟨k, hk, rfl⟩ := List.mem_map.1 hv
  unfold tabv
  split
  · rfl
  · rename_i hb
    have := h k (List.mem_range.1 hk) hb
    simp only [vid]
    exact decide_eq_true this
theorem P1.put {mv : List Int → Bool} {M n : Nat} {r : Int} {x : List Int} {ix : Nat → Nat} {bk : Nat → List (List Int)} {H Hb : AHeap} (hp : P1 mv M n r x ix bk H) {k : Nat} (hk : k < 4 * M + 1) (hx : x.length = n) (xb : Sp.inB M x) (xr : Sp.odo M x = r) (hmx : mv x = true) (hs : absSum x = k)
    (hHb : Hb = if (bk k).length = 0 then H else H.set (ix k) .dead) :
    P1 mv M n (r + 1) x (upd1 ix k (H.length + 3)) (upd1 bk k (bk k ++ [x])) (Hb.set 0 (.cells (tabC (upd1 ix k (H.length + 3)) (upd1 bk k (bk k ++ [x])) (4 * M + 1))) ++ [.dead, .dead, .dead, .cells (mS (bk k ++ [x]))]) ∧
    ∀ {fr fr' : Fr}, (∀ p ∈ fr', fr.get p.1 = p.2 ∧ vid (H.length + 4) 3 p.2 = true) →
      Wk 0 [] (idρ (H.length + 4)) fr (Hb.set 0 (.cells (tabC (upd1 ix k (H.length + 3)) (upd1 bk k (bk k ++ [x])) (4 * M + 1))) ++ [.dead, .cells (mI x), .cells [.own (H.length + 1) 0 n n 1], .cells (mS (bk k) ++ [.own (H.length + 1) 0 n n 1])])
        fr' (Hb.set 0 (.cells (tabC (upd1 ix k (H.length + 3)) (upd1 bk k (bk k ++ [x])) (4 * M + 1))) ++ [.dead, .dead, .dead, .cells (mS (bk k ++ [x]))]) := by
  have lt : ∀ {j b}, H[j]? = some b → j < H.length := fun hj => (List.getElem?_eq_some_iff.1 hj).1
  have hl0 := lt hp.h0
  have hl1 := lt hp.h1
  have hbl : Hb.length = H.length := by rw [hHb]; split <;> simp
  have hb0 : ∀ j, ((bk k).length ≠ 0 → j ≠ ix k) → Hb[j]? = H[j]? := fun j hj => by
    rw [hHb]; split
    · rfl
    · rename_i h; rw [List.getElem?_set_ne (fun e => hj h e.symm)]
  have hbok : HOk (fun _ _ => False) Hb := by
    rw [hHb]; split
    · exact hp.ok
    · exact hp.ok.set trivial
  obtain ⟨T, hT⟩ : ∃ T, tabC (upd1 ix k (H.length + 3)) (upd1 bk k (bk k ++ [x])) (4 * M + 1) = T := ⟨_, rfl⟩
  have hTv : T.all (vid (H.length + 4) 2) = true := by
    rw [← hT]
    refine tab_vid fun j hj hb => ?_
    by_cases e : j = k
    · rw [e, upd1_self]; omega
    · rw [upd1_ne e] at hb ⊢
      have := lt (hp.hk j hj hb)
      omega
  rw [hT]
  have hset : HOk (fun _ _ => False) (Hb.set 0 (.cells T) ++ [.dead, .dead, .dead, .cells (mS (bk k ++ [x]))]) := by
    intro j b hj
    have hlen : (Hb.set 0 (Blk.cells T) ++ [Blk.dead, Blk.dead, Blk.dead, Blk.cells (mS (bk k ++ [x]))]).length = H.length + 4 := by simp [hbl]
    rw [hlen]
    rw [List.getElem?_append] at hj
    split at hj
    · rename_i hjl
      rw [List.length_set] at hjl
      rw [List.getElem?_set] at hj
      split at hj
      · split at hj
        · cases hj
          show (bndL 0 T || T.all (vid (H.length + 4) 2)) = true
          rw [hTv, Bool.or_true]
        · cases hj
      · exact (hbok j b hj).mono (by omega) fun _ _ h => h
    · rw [List.length_set] at hj
      obtain ⟨d, hd⟩ : ∃ d, j - Hb.length = d := ⟨_, rfl⟩
      rw [hd] at hj
      rcases d with _ | _ | _ | _ | d
      · cases hj; trivial
      · cases hj; trivial
      · cases hj; trivial
      · cases hj; simp [blkN, mS_bnd]
      · simp at hj
  refine ⟨⟨?_, ?_, fun j hj hb => ?_, fun j hj hb => ?_, fun j l hj hl hb hc e => ?_, hset, fun j hj => ?_⟩, fun {fr fr'} hf => ?_⟩
  · rw [List.getElem?_append_left (by simp; omega), List.getElem?_set_self (by omega), hT]
  · rw [List.getElem?_append_left (by simp; omega), List.getElem?_set_ne (by omega), hb0 1 (fun h => by have := hp.h2 k hk h; omega)]
    exact hp.h1
  · by_cases e : j = k
    · subst e
      rw [upd1_self, upd1_self, show H.length + 3 = (Hb.set 0 (Blk.cells T)).length + 3 by rw [List.length_set, hbl], app_get]; rfl
    · rw [upd1_ne e] at hb ⊢
      rw [upd1_ne e]
      have h1 := hp.hk j hj hb
      have h2 := hp.h2 j hj hb
      have h3 := lt h1
      rw [List.getElem?_append_left (by simp; omega), List.getElem?_set_ne (by omega), hb0 _ fun hne he => e (hp.inj j k hj hk hb hne he)]
      exact h1
  · by_cases e : j = k
    · rw [e, upd1_self]; omega
    · rw [upd1_ne e] at hb ⊢; exact hp.h2 j hj hb
  · by_cases e1 : j = k
    · by_cases e2 : l = k
      · rw [e1, e2]
      · exfalso
        rw [e1, upd1_self, upd1_ne e2] at e
        rw [upd1_ne e2] at hc
        have := lt (hp.hk l hl hc)
        omega
    · by_cases e2 : l = k
      · exfalso
        rw [e2, upd1_self, upd1_ne e1] at e
        rw [upd1_ne e1] at hb
        have := lt (hp.hk j hj hb)
        omega
      · rw [upd1_ne e1] at hb
        rw [upd1_ne e2] at hc
        rw [upd1_ne e1, upd1_ne e2] at e
        exact hp.inj j l hj hl hb hc e
  · by_cases e : j = k
    · rw [e, upd1_self]; exact (hp.bu k hk).add xr hx xb hmx hs
    · rw [upd1_ne e]; exact (hp.bu j hj).skip xr hx xb (.inr fun h => e (by omega))
  · have hlen : (Hb.set 0 (Blk.cells T) ++ [Blk.dead, Blk.cells (mI x), Blk.cells [.own (H.length + 1) 0 n n 1], Blk.cells (mS (bk k) ++ [.own (H.length + 1) 0 n n 1])]).length = H.length + 4 := by simp [hbl]
    have hw := Wk.okF (B := 0) (H := Hb.set 0 (Blk.cells T) ++ [.dead, .cells (mI x), .cells [.own (H.length + 1) 0 n n 1], .cells (mS (bk k) ++ [.own (H.length + 1) 0 n n 1])]) (H' := Hb.set 0 (.cells T) ++ [.dead, .dead, .dead, .cells (mS (bk k ++ [x]))]) (fr := fr) (fr' := fr') (by simp) (fun j b hj => ?_) (Nat.zero_le _) (by rw [hlen]; exact hf)
    · rw [hlen] at hw; exact hw
    · have hbj := hset j b hj
      have hlen' : (Hb.set 0 (Blk.cells T) ++ [Blk.dead, Blk.dead, Blk.dead, Blk.cells (mS (bk k ++ [x]))]).length = H.length + 4 := by simp [hbl]
      rw [hlen'] at hbj
      rw [hlen]
      by_cases hjl : j < Hb.length
      · rw [List.getElem?_append_left (by simp; omega)] at hj
        refine .inr (.inl ⟨?_, hbj⟩)
        rw [List.getElem?_append_left (by simp; omega)]; exact hj
      · rw [List.getElem?_append_right (by simp; omega), List.length_set] at hj
        obtain ⟨d, hd⟩ : ∃ d, j - Hb.length = d := ⟨_, rfl⟩
        rw [hd] at hj
        rcases d with _ | _ | _ | _ | d
        · cases hj; exact .inl rfl
        · cases hj; exact .inl rfl
        · cases hj; exact .inl rfl
        · cases hj
          obtain rfl : j = (Hb.set 0 (Blk.cells T)).length + 3 := by rw [List.length_set]; omega
          refine .inr (.inr ⟨mS (bk k) ++ [.own (H.length + 1) 0 n n 1], _, rfl, by rw [app_get]; rfl, .inr ?_⟩)
          rw [← mS_snoc']
          refine vleL_app (vleL_same (N := H.length + 4) ?_) ⟨vle_mI (cs := mI x) ?_ (not_img ?_) hx.symm (List.take_of_length_le (by rw [mI_length]; omega)), trivial⟩
          · rw [List.all_eq_true]
            intro v hv
            obtain ⟨y, -, rfl⟩ := List.mem_map.1 hv
            simp [sI, vid, AVal.bnd, mI_bnd]
          · rw [show H.length + 1 = (Hb.set 0 (Blk.cells T)).length + 1 by rw [List.length_set, hbl], app_get]; rfl
          · rw [show H.length + 1 = (Hb.set 0 (Blk.cells T)).length + 1 by rw [List.length_set, hbl], app_get]; rfl
        · simp at hj
set_option maxRecDepth 20000 in
set_option maxHeartbeats 4000000 in
/-- The odometer goes one on. -/
theorem c50_carry {Q : QT} {ks : List Kont} {fr : Fr} {H0 : AHeap} {a : List (List Int)} {M K n : Nat} {mv : List Int → Bool} {x : List Int} {r : Int} (hx : x.length = n) (xb : Sp.inB M x) (xr : Sp.odo M x = r) (n1 : 1 ≤ n) (n4 : n ≤ 4) (hM : M ≤ 16) {ix : Nat → Nat} {bk : Nat → List (List Int)} {H : AHeap} (hp : P1 mv M n (r + 1) x ix bk H)
    (hw : Wk 0 [] (idρ H0.length) fr H0 [(0, .sl false false (mS a)), (3, I M), (4, .own 0 0 K K 1), (5, .own 1 0 n n 1), (9, I ((n - 1 : Nat) : Int))] H)
    (hk : ∀ (s : S1 mv M n) (fr' : Fr), s.r = r + 1 → (∀ p ∈ [(0, AVal.sl false false (mS a)), (3, I M), (4, .own 0 0 K K 1), (5, .own 1 0 n n 1), (7, B s.done)], fr'.get p.1 = p.2) → KQ ⟨Try.prog, 0, 126, true⟩ Q .norm ks fr' s.H []) :
    W ⟨Try.prog, 0, 126, true⟩ Q (.loop c50L3) (.block 4 :: .seq c50T4 :: ks) fr H0 [] := by
  have e3 : IntKind.i64.wrap (0 - (M : Int)) = -(M : Int) := by rw [wrap64 (by omega) (by omega)]; omega
  have en : atV n = I ((n - 1 : Nat) : Int) := by cases n with
    | zero => omega
    | succ n => rfl
  refine W_loop (fun q : S3 mv M n r x => ([(0, .sl false false (mS a)), (3, I M), (4, .own 0 0 K K 1), (5, .own 1 0 n n 1), (9, atV q.m)], q.H)) (fun q => q.m) ⟨n, ix, bk, H, Nat.le_refl _, by rw [Nat.sub_self, List.replicate_zero, List.append_nil, List.take_of_length_le (by omega)]; exact hp, by rw [Nat.sub_self, List.replicate_zero, List.drop_of_length_le (by omega)]⟩ (idρ H0.length) (by dsimp only; rw [en]; exact hw) ?_
  rintro ⟨m, ix, bk, H, hm, hp, hd⟩
  dsimp only
  have lt : ∀ {j b}, H[j]? = some b → j < H.length := fun hj => (List.getElem?_eq_some_iff.1 hj).1
  have hl1 := lt hp.h1
  cases m with
  | zero =>
    have ea : atV 0 = I (-1) := rfl
    have z1 : decide ((-1 : Int) ≥ 0) = false := rfl
    have z2 : decide ((-1 : Int) < 0) = true := rfl
    rw [ea]
    simp only [w50L3, w50T4, z1, z2, go_sem, Nat.reduceEqDiff, Nat.reduceAdd, Nat.reduceLT, Nat.reduceLeDiff, reduceIte, reduceCtorEq]
    have hxr : x = List.replicate n (M : Int) := by rw [← List.drop_zero (l := x), hd, Nat.sub_zero]
    refine hk ⟨true, _, r + 1, ix, bk, H, by simp, hp, fun h => (by cases h), fun _ => ?_⟩ _ rfl (by simp [Fr.get])
    rw [← xr, hxr]; exact Sp.odo_last M n
  | succ p =>
    have ea : atV (p + 1) = I p := rfl
    rw [ea]
    have pn : p < n := by omega
    obtain ⟨x', hx'⟩ : ∃ x', x.take (p + 1) ++ List.replicate (n - (p + 1)) (-(M : Int)) = x' := ⟨_, rfl⟩
    have xl' : x'.length = n := by rw [← hx']; simp; omega
    have gp : x'.getD p 0 = x.getD p 0 := by
      rw [← hx', List.getD_eq_getElem?_getD, List.getElem?_append_left (by simp; omega), List.getElem?_take_of_lt (by omega), ← List.getD_eq_getElem?_getD]
    have gx := mI_hd0 (l := x') (i := p) (by omega)
    rw [gp] at gx
    have gB : H[1]? = some (.cells (mI x')) := by rw [← hx']; exact hp.h1
    have d1 : (p : Int) < n := by omega
    have d2 : (0 : Int) ≤ p := by omega
    have d3 : p + 1 ≤ n := by omega
    have tp : x'.take p = x.take p := by rw [← hx', List.take_append_of_le_length (by simp; omega), List.take_take, Nat.min_eq_left (by omega)]
    have td : x'.drop (p + 1) = List.replicate (n - (p + 1)) (-(M : Int)) := by rw [← hx', List.drop_left' (by simp; omega)]
    by_cases hpm : x.getD p 0 = M
    · have z : ((x.getD p 0) == (M : Int)) = true := beq_iff_eq.2 hpm
      have ep : IntKind.i64.wrap ((p : Int) - 1) = (p : Int) - 1 := wrap64 (by omega) (by omega)
      have en : atV p = I ((p : Int) - 1) := by cases p with
        | zero => rfl
        | succ p => show I (p : Int) = _; congr 2; omega
      have exn : x'.take p ++ [-(M : Int)] ++ x'.drop (p + 1) = x.take p ++ List.replicate (n - p) (-(M : Int)) := by
        rw [tp, td, List.append_assoc, List.singleton_append, ← List.replicate_succ]; congr 2; omega
      simp only [w50L3, gB, gx, d1, d2, d3, z, e3, xl', mI_length, ep, go_sem, Nat.reduceEqDiff, Nat.reduceAdd, Nat.reduceLT, Nat.reduceLeDiff, reduceIte, reduceCtorEq]
      rw [exn]
      have hp' := hp.setx (x' := x.take p ++ List.replicate (n - p) (-(M : Int)))
      refine roundN (LP := fun _ _ => False) hp'.ok (fun _ _ h => h.elim) (Nat.zero_le _) ⟨p, ix, bk, _, by omega, hp', ?_⟩ (Nat.lt_succ_self p) rfl ?_
      · rw [List.drop_eq_getElem_cons (by omega), hd, show n - p = (n - (p + 1)) + 1 by omega, List.replicate_succ]
        congr 1
        rw [List.getD_eq_getElem?_getD, List.getElem?_eq_getElem (by omega)] at hpm
        exact hpm
      · have hl0 := lt hp.h0
        simp [Fr.get, vid, AVal.bnd, mS_bnd, hl0, hl1, en]
    · have z : ((x.getD p 0) == (M : Int)) = false := beq_eq_false_iff_ne.2 hpm
      have z3 : decide ((p : Int) < 0) = false := decide_eq_false (by omega)
      have bp := Sp.inB_getD xb p (by omega)
      have ev : IntKind.i64.wrap (x.getD p 0 + 1) = x.getD p 0 + 1 := wrap64 (by omega) (by omega)
      have exn : x'.take p ++ [x.getD p 0 + 1] ++ x'.drop (p + 1) = x.take p ++ [x.getD p 0 + 1] ++ List.replicate (n - (p + 1)) (-(M : Int)) := by rw [tp, td]
      simp only [w50L3, w50T4, gB, gx, d1, d2, d3, z, z3, e3, xl', mI_length, ev, go_sem, Nat.reduceEqDiff, Nat.reduceAdd, Nat.reduceLT, Nat.reduceLeDiff, reduceIte, reduceCtorEq]
      rw [exn]
      have hp' := hp.setx (x' := x.take p ++ [x.getD p 0 + 1] ++ List.replicate (n - (p + 1)) (-(M : Int)))
      have xs : x = x.take p ++ [x.getD p 0] ++ List.replicate (n - (p + 1)) (M : Int) := by
        rw [← hd]
        rw [List.append_assoc, List.singleton_append, List.getD_eq_getElem?_getD, List.getElem?_eq_getElem (by omega)]
        show x = x.take p ++ x[p] :: x.drop (p + 1)
        rw [← List.drop_eq_getElem_cons, List.take_append_drop]
      refine hk ⟨false, _, r + 1, ix, bk, _, by simp; omega, hp', fun _ => ⟨fun y hy => ?_, ?_⟩, fun h => by cases h⟩ _ rfl (by simp [Fr.get])
      · simp only [List.mem_append, List.mem_singleton, List.mem_replicate] at hy
        rcases hy with (hy | hy) | hy
        · exact xb y (List.mem_of_mem_take hy)
        · omega
        · omega
      · rw [Sp.odo_next, ← xs, xr]
/-- The table, given up. -/
def tabF (bk : Nat → List (List Int)) (K : Nat) : List AVal := (List.range K).map fun k => .sl false false (mS (bk k))
theorem tabF_bnd {bk : Nat → List (List Int)} {K N : Nat} : bndL N (tabF bk K) = true := bndL_map _ _ fun _ => by simp [AVal.bnd, mS_bnd]
theorem tabF_hd {bk : Nat → List (List Int)} {k K : Nat} (h : k < K) : ((tabF bk K).drop k).headD any = .sl false false (mS (bk k)) := by
  rw [List.drop_eq_getElem_cons (by simp [tabF]; exact h)]
  simp [tabF]
set_option maxRecDepth 20000 in
set_option maxHeartbeats 4000000 in
/-- One move is looked at. -/
theorem c50_in {Q : QT} {ks : List Kont} {fr : Fr} {F : List AVal} (Fb : ∀ {N}, bndL N F = true) {n : Nat} (nl : n ≤ 4) {done o b : List (List Int)} {m : List Int} {i j L : Nat} (hL : L < 1000) (hj : j < 10000000) (ml : m.length = n) (hdone : ∀ y ∈ done, y.length = n) (hk : Sp.Kept n done o) (few : o.length ≤ 400)
    (hf : ∀ p ∈ [(10, AVal.own 1 0 o.length o.length 1), (14, .sl false false (mI m)), (15, B true), (90, .own 0 1 L L 1), (91, I L), (92, I i), (96, .sl false false (mS b)), (97, I b.length), (98, I j), (102, .own 1 0 o.length o.length 1), (103, I o.length), (104, I (0 : Nat))], fr.get p.1 = p.2)
    (hq : ∀ (o' : List (List Int)) (v : AVal) (fr' : Fr) (H' : AHeap), Sp.Kept n (done ++ [m]) o' → (v = .own 1 0 o'.length o'.length 1 ∧ H' = [.cells F, .cells (mS o')] ∨ v = .own 3 0 o'.length o'.length 1 ∧ H' = [.cells F, .dead, .cells [nilSl], .cells (mS o')]) →
      (∀ p ∈ [(10, v), (90, AVal.own 0 1 L L 1), (91, I L), (92, I i), (96, .sl false false (mS b)), (97, I b.length), (98, I ((j + 1 : Nat) : Int))], fr'.get p.1 = p.2) → KQ ⟨Try.prog, 0, 126, true⟩ Q .norm ks fr' H' []) :
    W ⟨Try.prog, 0, 126, true⟩ Q (.loop c50L8) (.block 10 :: .seq c50T9 :: .block 9 :: .seq c50T10 :: ks) fr [.cells F, .cells (mS o)] [] := by
  simp only [List.mem_cons, List.not_mem_nil, or_false, forall_eq_or_imp, forall_eq] at hf
  obtain ⟨f10, f14, f15, f90, f91, f92, f96, f97, f98, f102, f103, f104⟩ := hf
  refine W_loop (fun l : { l : Nat // l ≤ o.length } => ([(10, .own 1 0 o.length o.length 1), (14, .sl false false (mI m)), (15, B (okL (o.take l.1) m)), (90, .own 0 1 L L 1), (91, I L), (92, I i), (96, .sl false false (mS b)), (97, I b.length), (98, I j), (102, .own 1 0 o.length o.length 1), (103, I o.length), (104, I l.1)], [.cells F, .cells (mS o)])) (fun l => o.length - l.1) ⟨0, Nat.zero_le _⟩ [some 0, some 1] (Wk.mk0 rfl (by simp [imgs, Blk.alive]) (by simp [hle, csle, Fb, mS_bnd]) (by simp [fle, vle, f10, f14, f15, f90, f91, f92, f96, f97, f98, f102, f103, f104, mS_bnd, mI_bnd, okL])) ?_
  rintro ⟨l, hl⟩
  dsimp only at hl ⊢
  by_cases hlo : l < o.length
  · have x1 : decide ((l : Int) < o.length) = true := decide_eq_true (by omega)
    have x1' : (l : Int) < o.length := by omega
    obtain ⟨y, hy⟩ : ∃ y, o.getD l [] = y := ⟨_, rfl⟩
    have gy := mS_hd0 hlo
    rw [hy] at gy
    have yo : y ∈ o := by rw [← hy]; exact gd_mem' hlo
    have yl := hk.len y yo
    have otk : o.take (l + 1) = o.take l ++ [y] := by
      rw [List.take_add_one, List.getElem?_eq_getElem hlo, ← hy, List.getD_eq_getElem?_getD, List.getElem?_eq_getElem hlo]; rfl
    have el : IntKind.i64.wrap ((l : Int) + 1) = ((l + 1 : Nat) : Int) := by rw [wrap64 (by omega) (by omega)]; omega
    have oks := okL_snoc (o.take l) y m
    rw [← otk] at oks
    have x5 : l + 1 ≤ o.length := hlo
    cases hok : okL (o.take l) m with
    | true =>
      rw [hok, Bool.true_and] at oks
      simp only [w50L8, x1, x1', gy, mS_length, x5, go_sem, Nat.reduceEqDiff, Nat.reduceAdd, Nat.reduceLT, Nat.reduceLeDiff, reduceIte, reduceCtorEq]
      refine CallK.pure (liftV (s26 false false false false y m (by omega) (by omega)) (by simp [bndL, AVal.bnd, mI_bnd]) rfl _) ?_
      simp only [el, go_sem, Nat.reduceEqDiff, Nat.reduceAdd, Nat.reduceLT, Nat.reduceLeDiff, reduceIte, reduceCtorEq]
      refine round1 rfl ⟨l + 1, hlo⟩ [some 0, some 1] (by dsimp only; omega) (Wk.mk0 rfl (by simp [imgs, Blk.alive]) (by simp [hle, csle, Fb, mS_bnd]) (by simp [fle, vle, Fr.get, mS_bnd, mI_bnd, oks]))
    | false =>
      rw [hok, Bool.false_and] at oks
      simp only [w50L8, x1, x1', gy, mS_length, x5, el, go_sem, Nat.reduceEqDiff, Nat.reduceAdd, Nat.reduceLT, Nat.reduceLeDiff, reduceIte, reduceCtorEq]
      refine round1 rfl ⟨l + 1, hlo⟩ [some 0, some 1] (by dsimp only; omega) (Wk.mk0 rfl (by simp [imgs, Blk.alive]) (by simp [hle, csle, Fb, mS_bnd]) (by simp [fle, vle, Fr.get, mS_bnd, mI_bnd, oks]))
  · have x1 : decide ((l : Int) < o.length) = false := decide_eq_false (by omega)
    obtain rfl : l = o.length := by omega
    rw [List.take_length]
    have ej : IntKind.i64.wrap ((j : Int) + 1) = ((j + 1 : Nat) : Int) := by rw [wrap64 (by omega) (by omega)]; omega
    cases hok : okL o m with
    | true =>
      have hany : (o.any fun y => Sp.fitR y m) = false := by unfold okL at hok; simpa using hok
      simp only [w50L8, w50T9, x1, go_sem, Nat.reduceEqDiff, Nat.reduceAdd, Nat.reduceLT, Nat.reduceLeDiff, reduceIte, reduceCtorEq]
      have hno : m ∉ o := fun h => by
        rw [List.any_eq_false] at hany
        exact hany m h (Sp.fitR_refl m)
      refine CallK.by (CallV.of_spec (first := []) (cap := []) (s95 (.cells F) (by simp [blkOk, Fb]) (fun i _ => by simp [blkN, Fb]) (by simp [blkN, Fb]) o m n hk.len ml nl hk.asc hno (by omega))) fun v H' ⟨o', ol, oasc, omem, hv, hH⟩ => ?_
      subst hv hH
      simp only [w50T10, ej, List.getD_cons_zero, List.getD_cons_succ, go_sem, Nat.reduceEqDiff, Nat.reduceAdd, Nat.reduceLT, Nat.reduceLeDiff, reduceIte, reduceCtorEq]
      exact hq o' _ _ _ (hk.add hdone ml hany oasc omem) (.inr ⟨rfl, rfl⟩) (by simp [Fr.get])
    | false =>
      have hany : (o.any fun y => Sp.fitR y m) = true := by unfold okL at hok; simpa using hok
      simp only [w50L8, w50T9, w50T10, x1, ej, go_sem, Nat.reduceEqDiff, Nat.reduceAdd, Nat.reduceLT, Nat.reduceLeDiff, reduceIte, reduceCtorEq]
      exact hq o _ _ _ (hk.skip hdone ml hany) (.inl ⟨rfl, rfl⟩) (by simp [Fr.get])
set_option maxRecDepth 20000 in
set_option maxHeartbeats 4000000 in
/-- The second part: what no kept one fits into is kept. -/
theorem c50_two {a : List (List Int)} {M K n : Nat} (hm : Sp.mat a = true) (h16 : M ≤ 16) (hM : Sp.bnd (a.map Sp.pad) (a.getD 0 []).length ≤ M) (hn : (a.getD 0 []).length = n) (hK : 4 * M + 1 = K) {mv : List Int → Bool} (hmv : (fun x => a.all fun r => Sp.dotG 0 r x == 0) = mv)
    {x : List Int} {ix : Nat → Nat} {bk : Nat → List (List Int)} {H : AHeap} (hp : P1 mv M n ((2 * (M : Int) + 1) ^ n) x ix bk H) {fr : Fr} (hf : fr.get 4 = .own 0 0 K K 1) :
    W ⟨Try.prog, 0, 126, true⟩ (retA 0 r50 fun v H' => H' = [] ∧ v = .sl false false (mS (Sp.basL a))) c50T5 [] fr H [] := by
  have hB : ∀ k, k < 4 * M + 1 → Sp.Buck (fun x => a.all fun r => Sp.dotG 0 r x == 0) M (a.getD 0 []).length ((2 * M + 1) ^ (a.getD 0 []).length) k (bk k) := fun k hk => by rw [hmv, hn]; exact hp.bu k hk
  have hM1 : 1 ≤ M := by
    have : 1 ≤ Sp.bnd (a.map Sp.pad) (a.getD 0 []).length := by unfold Sp.bnd; split <;> (try split) <;> (try split) <;> omega
    omega
  have d1 : ¬ ((1 : Int) = K) := by omega
  have d2 : (1 : Int) ≤ K := by omega
  have t1 : Int.toNat 1 = 1 := rfl
  have eK : K - 1 = 4 * M := by omega
  have ix0 : ∀ k, k < K → (bk k).length ≠ 0 → ix k ∉ [0] := fun k hk hb h => by
    have := hp.h2 k (by omega) hb
    simp at h; omega
  obtain ⟨F, hF⟩ : ∃ F, tabF bk K = F := ⟨_, rfl⟩
  have Fb : ∀ {N}, bndL N F = true := by rw [← hF]; exact tabF_bnd
  have Fl : F.length = K := by rw [← hF]; simp [tabF]
  have Fh : ∀ {k}, k < K → (F.drop k).headD any = .sl false false (mS (bk k)) := fun h => by rw [← hF]; exact tabF_hd h
  simp only [w50T5, hf, d1, t1, eK, false_and, go_sem, Nat.reduceEqDiff, Nat.reduceAdd, Nat.reduceLT, Nat.reduceLeDiff, reduceIte, reduceCtorEq]
  refine ⟨⟨by omega, d2, .inr (by omega)⟩, ?_⟩
  refine W_loop (fun q : { q : Nat × List (List Int) // q.1 ≤ 4 * M ∧ Sp.Kept n (Sp.catB bk q.1) q.2 } => ([(10, .own 1 0 q.1.2.length q.1.2.length 1), (90, .own 0 1 (4 * M) (4 * M) 1), (91, I (4 * M : Nat)), (92, I q.1.1)], [.cells F, .cells (mS q.1.2)])) (fun q => 4 * M - q.1.1) ⟨(0, []), Nat.zero_le _, Sp.Kept.nil n⟩ [some 0, none] (Wk.mk0 rfl (by simp [imgs, Blk.alive]) ?_ (by simp [fle, vle, Fr.get])) ?_
  · refine ⟨?_, ?_, trivial⟩
    · simp only [List.getElem?_cons_zero, Option.join_some, hp.h0]
      refine .inr ?_
      rw [hK, ← hF]
      refine vleL_map fun k hk => ?_
      have hkK := List.mem_range.1 hk
      unfold tabv
      split
      · rename_i hb
        rw [List.length_eq_zero_iff.1 hb]
        exact ⟨rfl, rfl, rfl⟩
      · rename_i hb
        exact vle_mS (hp.hk k (by omega) hb) (by simpa [imgs, Blk.alive] using ix0 k hkK hb) rfl (List.take_of_length_le (by rw [mS_length]; omega))
    · rfl
  rintro ⟨⟨i, o⟩, hi, hk⟩
  dsimp only at hi hk ⊢
  by_cases hi4 : i < 4 * M
  · have z1 : decide ((i : Int) < (4 * M : Nat)) = true := decide_eq_true (by omega)
    have z1' : ((i : Int) < (4 * M : Nat)) := by omega
    have gF := Fh (k := 1 + i) (by omega)
    obtain ⟨b, hb⟩ : ∃ b, bk (i + 1) = b := ⟨_, rfl⟩
    rw [show 1 + i = i + 1 by omega] at gF
    rw [hb] at gF
    have hbb := hp.bu (i + 1) (by omega)
    rw [hb] at hbb
    have bl : (b.length : Int) ≤ 1185921 := by
      have := hbb.1
      obtain ⟨-, -, -, n4⟩ := Sp.mat_cols hm rfl
      have := Sp.pow_le n M (by omega) h16
      omega
    have cs := Sp.catB_succ bk i
    rw [hb] at cs
    obtain ⟨t, ht⟩ := Sp.catB_pre bk (i := i + 1) (N := 4 * M) (by omega)
    rw [cs] at ht
    have hall : ∀ y ∈ Sp.catB bk i ++ b, y.length = n := fun y hy => by
      rw [← hn]; exact Sp.mem_len hm hB (by rw [ht]; exact List.mem_append_left _ hy)
    have ei : IntKind.i64.wrap ((i : Int) + 1) = ((i + 1 : Nat) : Int) := by rw [wrap64 (by omega) (by omega)]; omega
    have z5 : i + 1 + 1 ≤ F.length := by omega
    have ai : 1 + i = i + 1 := by omega
    simp only [w50L6, z1, z1', ai, gF, go_sem, Nat.reduceEqDiff, Nat.reduceAdd, Nat.reduceLT, Nat.reduceLeDiff, reduceIte, reduceCtorEq]
    refine ⟨z5, ?_⟩
    refine W_loop (fun q : { q : Nat × List (List Int) // q.1 ≤ b.length ∧ Sp.Kept n (Sp.catB bk i ++ b.take q.1) q.2 } => ([(10, .own 1 0 q.1.2.length q.1.2.length 1), (90, .own 0 1 (4 * M) (4 * M) 1), (91, I (4 * M : Nat)), (92, I i), (96, .sl false false (mS b)), (97, I b.length), (98, I q.1.1)], [.cells F, .cells (mS q.1.2)])) (fun q => b.length - q.1.1) ⟨(0, o), Nat.zero_le _, by rw [List.take_zero, List.append_nil]; exact hk⟩ [some 0, some 1] (Wk.mk0 rfl (by simp [imgs, Blk.alive]) (by simp [hle, csle, Fb, mS_bnd]) (by simp [fle, vle, Fr.get, mS_bnd])) ?_
    rintro ⟨⟨j, o⟩, hj, hk⟩
    dsimp only at hj hk ⊢
    by_cases hjb : j < b.length
    · have y1 : decide ((j : Int) < b.length) = true := decide_eq_true (by omega)
      have y1' : (j : Int) < b.length := by omega
      obtain ⟨m, hmm⟩ : ∃ m, b.getD j [] = m := ⟨_, rfl⟩
      have gm := mS_getD hjb
      rw [hmm] at gm
      have mb : m ∈ b := by rw [← hmm]; exact gd_mem' hjb
      have ml : m.length = n := hall m (List.mem_append_right _ mb)
      have hdone : ∀ y ∈ Sp.catB bk i ++ b.take j, y.length = n := fun y hy => hall y (by
        rcases List.mem_append.1 hy with h | h
        · exact List.mem_append_left _ h
        · exact List.mem_append_right _ (List.mem_of_mem_take h))
      have btk : b.take (j + 1) = b.take j ++ [m] := by
        rw [List.take_add_one, List.getElem?_eq_getElem hjb, ← hmm, List.getD_eq_getElem?_getD, List.getElem?_eq_getElem hjb]; rfl
      have few : o.length ≤ 400 := by
        have hk' := hk
        rw [← hn] at hk'
        refine Sp.kept_few hm h16 hM hB (l := Sp.catB bk i ++ b.take j) (t := b.drop j ++ t) ?_ hk'
        rw [ht, List.append_assoc, List.append_assoc, ← List.append_assoc (b.take j), List.take_append_drop]
      simp only [w50L7, y1, y1', gm, go_sem, Nat.reduceEqDiff, Nat.reduceAdd, Nat.reduceLT, Nat.reduceLeDiff, reduceIte, reduceCtorEq]
      refine c50_in (i := i) (j := j) (L := 4 * M) (b := b) Fb (by rw [← hn]; exact (Sp.mat_cols hm rfl).2.2.2) (by omega) (by omega) ml hdone hk few (by simp [Fr.get]) ?_
      intro o' v fr' H' hk' hv hf'
      simp only [List.mem_cons, List.not_mem_nil, or_false, forall_eq_or_imp, forall_eq] at hf'
      obtain ⟨f10, f90, f91, f92, f96, f97, f98⟩ := hf'
      rw [List.append_assoc, ← btk] at hk'
      rcases hv with ⟨rfl, rfl⟩ | ⟨rfl, rfl⟩
      · exact round1 rfl ⟨(j + 1, o'), hjb, hk'⟩ [some 0, some 1] (by dsimp only; omega) (Wk.mk0 rfl (by simp [imgs, Blk.alive]) (by simp [hle, csle, Fb, mS_bnd]) (by simp [fle, vle, f10, f90, f91, f92, f96, f97, f98, mS_bnd]))
      · exact round1 rfl ⟨(j + 1, o'), hjb, hk'⟩ [some 0, some 3] (by dsimp only; omega) (Wk.mk0 rfl (by simp [imgs, Blk.alive]) (by simp [hle, csle, Fb, mS_bnd]) (by simp [fle, vle, f10, f90, f91, f92, f96, f97, f98, mS_bnd]))
    · have y1 : decide ((j : Int) < b.length) = false := decide_eq_false (by omega)
      obtain rfl : j = b.length := by omega
      rw [List.take_length, ← cs] at hk
      simp only [w50L7, w50T11, y1, ei, go_sem, Nat.reduceEqDiff, Nat.reduceAdd, Nat.reduceLT, Nat.reduceLeDiff, reduceIte, reduceCtorEq]
      exact round1 rfl ⟨(i + 1, o), by omega, hk⟩ [some 0, some 1] (by dsimp only; omega) (Wk.mk0 rfl (by simp [imgs, Blk.alive]) (by simp [hle, csle, Fb, mS_bnd]) (by simp [fle, vle, Fr.get, mS_bnd]))
  · have z1 : decide ((i : Int) < (4 * M : Nat)) = false := decide_eq_false (by omega)
    obtain rfl : i = 4 * M := by omega
    simp only [w50L6, w50T12, z1, go_sem, Nat.reduceEqDiff, Nat.reduceAdd, Nat.reduceLT, Nat.reduceLeDiff, reduceIte, reduceCtorEq]
    rw [← hn] at hk
    have := hk.done hm hM (fun x => Sp.mem_all hm h16 hB) (Sp.all_size hm hB)
    exact leaf (.sl false false (mS o)) (vle_mS rfl (by simp) rfl (List.take_of_length_le (by rw [mS_length]; omega))) ⟨rfl, by rw [this]⟩
set_option maxRecDepth 20000 in
set_option maxHeartbeats 4000000 in
theorem C50_ok : C50 := by
  intro a ha hl hm
  refine Abs.Spec.walk mixed fn50 nn50 t50 q50 nt50 (by simp) ?_
  obtain ⟨h1, h2, h3⟩ := Sp.mat_spec hm
  obtain ⟨-, -, n1, n4⟩ := Sp.mat_cols hm rfl
  simp only [w50, go_sem, Nat.reduceEqDiff, Nat.reduceAdd, Nat.reduceLT, Nat.reduceLeDiff, reduceIte, reduceCtorEq]
  refine CallK.by (CallV.of_spec (first := []) (cap := []) (s93 false false a ha hl hm)) fun v H' ⟨hH, M, hM1, hM2, hv⟩ => ?_
  subst hH hv
  obtain ⟨K, hK⟩ : ∃ K, 4 * M + 1 = K := ⟨_, rfl⟩
  obtain ⟨r0, hr0⟩ : ∃ r, a.getD 0 [] = r := ⟨_, rfl⟩
  obtain ⟨n, hn⟩ : ∃ n, r0.length = n := ⟨_, rfl⟩
  rw [hr0, hn] at n1 n4
  have e1 : IntKind.i64.wrap (4 * (M : Int)) = ((4 * M : Nat) : Int) := by rw [wrap64 (by omega) (by omega)]; omega
  have e2 : IntKind.i64.wrap (((4 * M : Nat) : Int) + 1) = (K : Int) := by rw [wrap64 (by omega) (by omega)]; omega
  have al : 0 < a.length := by omega
  have al' : (0 : Int) < a.length := by omega
  have g0 := mS_getD al
  rw [hr0] at g0
  simp only [e1, e2, g0, al', hn, go_sem, Nat.reduceEqDiff, Nat.reduceAdd, Nat.reduceLT, Nat.reduceLeDiff, reduceIte, reduceCtorEq]
  have e3 : IntKind.i64.wrap (0 - (M : Int)) = -(M : Int) := by rw [wrap64 (by omega) (by omega)]; omega
  refine ⟨⟨by omega, by omega, by omega⟩, by omega, ⟨by omega, by omega, by omega⟩, ?_⟩
  refine W_loop (fun q : { i : Nat // i ≤ n } => ([(0, .sl false false (mS a)), (3, I M), (4, .own 0 0 K K 1), (5, .own 1 0 n n 1), (30, I n), (31, I q.1)], [.cells (List.replicate K nilSl), .cells (mI (List.replicate q.1 (-(M : Int)) ++ List.replicate (n - q.1) 0))])) (fun q => n - q.1) ⟨0, by omega⟩ [some 0, some 1] (Wk.mk0 rfl (by simp [imgs, Blk.alive]) (by simp [hle, csle, mI_bnd, rep_bnd]) (by simp [fle, vle, Fr.get, mS_bnd])) ?_
  rintro ⟨i, hi⟩
  dsimp only at hi ⊢
  by_cases hin : i < n
  · have d1 : (i : Int) < n := by omega
    have e4 : IntKind.i64.wrap ((i : Int) + 1) = (i : Int) + 1 := wrap64 (by omega) (by omega)
    simp only [w50L0, d1, decide_true, e3, e4, go_sem, Nat.reduceEqDiff, Nat.reduceAdd, Nat.reduceLT, Nat.reduceLeDiff, reduceIte, reduceCtorEq]
    rw [fill_put hin]
    exact ⟨by simp; omega, round1 rfl ⟨i + 1, hin⟩ [some 0, some 1] (by dsimp only; omega) (Wk.mk0 rfl (by simp [imgs, Blk.alive]) (by simp [hle, csle, mI_bnd, rep_bnd]) (by simp [fle, vle, Fr.get, mS_bnd]))⟩
  · have d1 : ¬ (i : Int) < n := by omega
    obtain rfl : i = n := by omega
    rw [Nat.sub_self, List.replicate_zero, List.append_nil]
    simp only [w50L0, w50T1, d1, decide_false, go_sem, Nat.reduceEqDiff, Nat.reduceAdd, Nat.reduceLT, Nat.reduceLeDiff, reduceIte, reduceCtorEq]
    obtain ⟨mv, hmv⟩ : ∃ mv : List Int → Bool, (fun x => a.all fun r => Sp.dotG 0 r x == 0) = mv := ⟨_, rfl⟩
    have repl : (List.replicate i (-(M : Int))).length = i := List.length_replicate
    have st0 : P1 mv M i 0 (List.replicate i (-(M : Int))) (fun _ => 0) (fun _ => []) [.cells (List.replicate K nilSl), .cells (mI (List.replicate i (-(M : Int))))] :=
      ⟨by rw [hK, tab_nil]; rfl, rfl, fun k _ h => (h rfl).elim, fun k _ h => (h rfl).elim, fun k _ _ _ h => (h rfl).elim, fun j b hj => by
        rcases j with _ | _ | j
        · cases hj; simp [blkN, rep_bnd]
        · cases hj; simp [blkN, mI_bnd]
        · simp at hj, fun k _ => Sp.Buck.nil⟩
    refine W_loop (fun q : S1 mv M i => ([(0, .sl false false (mS a)), (3, I M), (4, .own 0 0 K K 1), (5, .own 1 0 i i 1), (7, B q.done)], q.H)) (fun q => ((2 * (M : Int) + 1) ^ i - q.r).toNat)
      ⟨false, List.replicate i (-(M : Int)), 0, fun _ => 0, fun _ => [], _, repl, st0, fun _ => ⟨fun z hz => by rw [List.mem_replicate] at hz; omega, Sp.odo_first M i⟩, fun h => by cases h⟩ (idρ 2) (Wk.ok (LP := fun _ _ => False) st0.ok (fun _ _ h => h.elim) (Nat.zero_le _) (by simp [Fr.get, vid, AVal.bnd, mS_bnd]) fun _ h => by cases h) ?_
    rintro ⟨done, x, r, ix, bk, H, hx, hp, hd, he⟩
    dsimp only
    cases done with
    | true =>
      have hr := he rfl
      simp only [w50L2, go_sem, Nat.reduceEqDiff, Nat.reduceAdd, Nat.reduceLT, Nat.reduceLeDiff, reduceIte, reduceCtorEq]
      rw [hr] at hp
      exact c50_two hm hM2 hM1 (by rw [hr0, hn]) hK hmv hp rfl
    | false =>
      obtain ⟨xb, xr⟩ := hd rfl
      have hra : ∀ r ∈ a, r.length = x.length := fun r hr => by rw [(h3 r hr).1, hr0, hn, hx]
      have hxv : ∀ {ρ : List (Option Nat)}, vle H ρ [] 3 (.own 1 0 i i 1) (.sl false false (mI x)) := vle_mI hp.h1 (by simp) hx.symm (List.take_of_length_le (by rw [mI_length]; omega))
      have h54 := s54 false false false false a x hra (by omega) (by omega)
      rw [show (a.all fun r => Sp.dotG 0 r x == 0) = mv x by rw [← hmv]] at h54
      simp only [w50L2, go_sem, Nat.reduceEqDiff, Nat.reduceAdd, Nat.reduceLT, Nat.reduceLeDiff, reduceIte, reduceCtorEq]
      refine CallK.pure (CallV.of_spec (first := []) (cap := []) (Spec.lend (args' := [.sl false false (mS a), .sl false false (mI x)]) h54 rfl ⟨⟨mS_bnd, fun h => h, fun h => h, rfl⟩, hxv, trivial⟩)) ?_
      have e5 : IntKind.i64.wrap ((i : Int) - 1) = ((i - 1 : Nat) : Int) := by rw [wrap64 (by omega) (by omega)]; omega
      have hlt := (Sp.odo_lt M i hx xb).2
      have hkk : ∀ (s : S1 mv M i) (fr' : Fr), s.r = r + 1 → (∀ p ∈ [(0, AVal.sl false false (mS a)), (3, I M), (4, .own 0 0 K K 1), (5, .own 1 0 i i 1), (7, B s.done)], fr'.get p.1 = p.2) →
          KQ ⟨Try.prog, 0, 126, true⟩ (retA 0 r50 fun v H' => H' = [] ∧ v = .sl false false (mS (Sp.basL a))) .norm [Kont.block 3, Kont.loop [] (fun q : S1 mv M i => ([(0, .sl false false (mS a)), (3, I M), (4, .own 0 0 K K 1), (5, .own 1 0 i i 1), (7, B q.done)], q.H)) (fun q => ((2 * (M : Int) + 1) ^ i - q.r).toNat) ⟨false, x, r, ix, bk, H, hx, hp, hd, he⟩, Kont.block 2, Kont.seq c50T5] fr' s.H [] := by
        intro s fr' hsr hf
        have l0 := (List.getElem?_eq_some_iff.1 s.p.h0).1
        have l1 := (List.getElem?_eq_some_iff.1 s.p.h1).1
        simp only [go_sem, Nat.reduceEqDiff, Nat.reduceAdd, Nat.reduceLT, Nat.reduceLeDiff, reduceIte, reduceCtorEq]
        refine roundN (LP := fun _ _ => False) s.p.ok (fun _ _ h => h.elim) (Nat.zero_le _) s (by dsimp only; omega) rfl fun p hp => ⟨hf p hp, ?_⟩
        simp only [List.mem_cons, List.not_mem_nil, or_false] at hp
        rcases hp with rfl | rfl | rfl | rfl | rfl
        · simp [vid, AVal.bnd, mS_bnd]
        · rfl
        · simp only [vid]; exact decide_eq_true l0
        · simp only [vid]; exact decide_eq_true l1
        · rfl
      have lt : ∀ {j b}, H[j]? = some b → j < H.length := fun hj => (List.getElem?_eq_some_iff.1 hj).1
      have hl0 := lt hp.h0
      have hl1 := lt hp.h1
      cases hmx : mv x with
      | false =>
        have hp' : P1 mv M i (r + 1) x ix bk H := ⟨hp.h0, hp.h1, hp.hk, hp.h2, hp.inj, hp.ok, fun k hk => (hp.bu k hk).skip xr hx xb (.inl hmx)⟩
        simp only [e5, go_sem, Nat.reduceEqDiff, Nat.reduceAdd, Nat.reduceLT, Nat.reduceLeDiff, reduceIte, reduceCtorEq]
        refine c50_carry (a := a) (K := K) hx xb xr n1 n4 hM2 hp' (Wk.ok (LP := fun _ _ => False) hp.ok (fun _ _ h => h.elim) (Nat.zero_le _) ?_ fun _ h => by cases h) hkk
        simp [Fr.get, vid, AVal.bnd, mS_bnd, hl0, hl1]
      | true =>
        simp only [go_sem, Nat.reduceEqDiff, Nat.reduceAdd, Nat.reduceLT, Nat.reduceLeDiff, reduceIte, reduceCtorEq]
        refine CallK.pure (CallV.of_spec (first := []) (cap := []) (Spec.lend (args' := [.sl false false (mI x)]) (s94 false false x (by omega) (Sp.inB_mono xb (by omega))) rfl ⟨hxv, trivial⟩)) ?_
        obtain ⟨k, hk⟩ : ∃ k : Nat, absSum x = k := ⟨(absSum x).toNat, by have := absSum_nn x; omega⟩
        have hkK : k < K := by
          have := absSum_le xb
          rw [hx] at this
          have := Int.mul_le_mul_of_nonneg_left (show (i : Int) ≤ 4 by omega) (show (0 : Int) ≤ M by omega)
          omega
        rw [hk]
        have d2 : (k : Int) < K := by omega
        have gA : ∀ L, (H ++ L)[0]? = some (.cells (tabC ix bk K)) := fun L => by rw [List.getElem?_append_left hl0, hp.h0, hK]
        have gB : ∀ L, (H ++ L)[1]? = some (.cells (mI x)) := fun L => by rw [List.getElem?_append_left hl1, hp.h1]
        have gE : ∀ L b, (H ++ L).set 0 b = H.set 0 b ++ L := fun L b => List.set_append_left _ _ hl0
        have gh := tab_hd (ix := ix) (bk := bk) hkK
        have d3 : k + 1 ≤ K := hkK
        have gx : List.take i (mI x) = mI x := List.take_of_length_le (by rw [mI_length]; omega)
        have d4 : ¬ i ≤ 0 := by omega
        have blen : ((bk k).length : Int) ≤ 1185921 := by
          have := (hp.bu k (by omega)).1
          have := Sp.pow_le i M n4 hM2
          omega
        have htp := tab_put (ix := ix) (bk := bk) (N := H.length + 3) (x := x) hkK
        obtain ⟨Hb, hHb⟩ : ∃ Hb, Hb = if (bk k).length = 0 then H else H.set (ix k) .dead := ⟨_, rfl⟩
        have hbl : Hb.length = H.length := by rw [hHb]; split <;> simp
        obtain ⟨hp', hwk⟩ := hp.put (Hb := Hb) (by omega) hx xb xr hmx hk hHb
        rw [hK] at hwk hp'
        have fin : ∀ {fr : Fr}, (∀ p ∈ [(0, AVal.sl false false (mS a)), (3, I M), (4, .own 0 0 K K 1), (5, .own 1 0 i i 1), (9, I ((i - 1 : Nat) : Int))], fr.get p.1 = p.2) →
            W ⟨Try.prog, 0, 126, true⟩ (retA 0 r50 fun v H' => H' = [] ∧ v = .sl false false (mS (Sp.basL a))) (.loop c50L3) [Kont.block 4, Kont.seq c50T4, Kont.block 3, Kont.loop [] (fun q : S1 mv M i => ([(0, .sl false false (mS a)), (3, I M), (4, .own 0 0 K K 1), (5, .own 1 0 i i 1), (7, B q.done)], q.H)) (fun q => ((2 * (M : Int) + 1) ^ i - q.r).toNat) ⟨false, x, r, ix, bk, H, hx, hp, hd, he⟩, Kont.block 2, Kont.seq c50T5] fr
              (List.set Hb 0 (Blk.cells (List.take k (tabC ix bk K) ++ own (H.length + 3) 0 ((bk k).length + 1) ((bk k).length + 1) 1 :: List.drop (k + 1) (tabC ix bk K))) ++ [Blk.dead, Blk.cells (mI x), Blk.cells [own (H.length + 1) 0 i i 1], Blk.cells (mS (bk k) ++ [own (H.length + 1) 0 i i 1])]) [] := by
          intro fr hf
          rw [htp]
          have hlen : (List.set Hb 0 (Blk.cells (tabC (upd1 ix k (H.length + 3)) (upd1 bk k (bk k ++ [x])) K)) ++ [Blk.dead, Blk.cells (mI x), Blk.cells [own (H.length + 1) 0 i i 1], Blk.cells (mS (bk k) ++ [own (H.length + 1) 0 i i 1])]).length = H.length + 4 := by simp [hbl]
          refine c50_carry (a := a) (K := K) hx xb xr n1 n4 hM2 hp' ?_ hkk
          rw [hlen]
          refine hwk fun p hp => ⟨hf p hp, ?_⟩
          simp only [List.mem_cons, List.not_mem_nil, or_false] at hp
          rcases hp with rfl | rfl | rfl | rfl | rfl
          · simp [vid, AVal.bnd, mS_bnd]
          · rfl
          · simp [vid]
          · simp [vid]
          · rfl
        have b8 : i * 8 ≤ 2 ^ 40 := by omega
        by_cases hbk : (bk k).length = 0
        · have gv : tabv ix bk k = nilSl := by unfold tabv; rw [if_pos hbk]
          have hmk : mS (bk k) = [] := by rw [List.length_eq_zero_iff.1 hbk]; rfl
          rw [if_pos hbk] at hHb
          subst hHb
          rw [hbk, hmk, List.nil_append, Nat.zero_add] at fin
          simp only [d2, d4, gA, gB, gE, gh, gv, tab_len, d3, hx, gx, e5, List.append_assoc, List.cons_append, List.nil_append, List.length_append, List.length_cons, List.length_nil, app_get, app_get0, app_set, app_set0, List.getElem?_cons_succ, List.getElem?_cons_zero, List.set_cons_succ, List.set_cons_zero, go_sem, Nat.reduceEqDiff, Nat.reduceAdd, Nat.reduceLT, Nat.reduceLeDiff, reduceIte, reduceCtorEq]
          refine ⟨⟨b8, by decide, fin ?_⟩, ⟨b8, by decide, fin ?_⟩, b8, ⟨by decide, fin ?_⟩, by decide, fin ?_⟩ <;> simp [Fr.get]
        · have gv : tabv ix bk k = .own (ix k) 0 (bk k).length (bk k).length 1 := by unfold tabv; rw [if_neg hbk]
          have hik := hp.hk k (by omega) hbk
          have hi2 := hp.h2 k (by omega) hbk
          have hil := lt hik
          rw [if_neg hbk] at hHb
          subst hHb
          have gC : ∀ L, (H ++ L)[ix k]? = some (.cells (mS (bk k))) := fun L => by rw [List.getElem?_append_left hil, hik]
          have gD : ∀ L b, (H ++ L).set (ix k) b = H.set (ix k) b ++ L := fun L b => List.set_append_left _ _ hil
          have gF : ∀ L, (H.set (ix k) .dead ++ L)[0]? = some (.cells (tabC ix bk K)) := fun L => by rw [List.getElem?_append_left (by simpa using hl0), List.getElem?_set_ne (by omega), hp.h0, hK]
          have gG : ∀ L b, (H.set (ix k) .dead ++ L).set 0 b = (H.set (ix k) .dead).set 0 b ++ L := fun L b => List.set_append_left _ _ (by simpa using hl0)
          have gI : ∀ (L : AHeap) j, (H.set (ix k) .dead ++ L)[H.length + j]? = L[j]? := fun L j => by rw [show H.length + j = (H.set (ix k) Blk.dead).length + j by simp, app_get]
          have gJ : ∀ (L : AHeap) j b, (H.set (ix k) .dead ++ L).set (H.length + j) b = H.set (ix k) .dead ++ L.set j b := fun L j b => by rw [show H.length + j = (H.set (ix k) Blk.dead).length + j by simp, app_set]
          simp only [d2, d4, gA, gB, gC, gD, gE, gF, gG, gI, gJ, gh, gv, tab_len, d3, hx, gx, e5, List.append_assoc, List.cons_append, List.nil_append, List.length_append, List.length_cons, List.length_nil, app_get, app_get0, app_set, app_set0, List.getElem?_cons_succ, List.getElem?_cons_zero, List.set_cons_succ, List.set_cons_zero, go_sem, Nat.reduceEqDiff, Nat.reduceAdd, Nat.reduceLT, Nat.reduceLeDiff, reduceIte, reduceCtorEq]
          have b24 : ((bk k).length + 1) * 24 ≤ 2 ^ 40 := by omega
          refine ⟨⟨b8, b24, fin ?_⟩, ⟨b8, b24, fin ?_⟩, b8, ⟨b24, fin ?_⟩, b24, fin ?_⟩ <;> simp [Fr.get]
end Go.Proofs.Ytipfjfmdjmaflaa
