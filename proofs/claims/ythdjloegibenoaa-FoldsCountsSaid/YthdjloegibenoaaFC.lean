/- Contracts of folds: all piles, one after the other. -/
import Derived.Test.YthdjloegibenoaaFB
import Derived.Test.YthdjloegibenoaaDB
namespace Go.Proofs.Ythdjloegibenoaa
open Go.Abs AVal
set_option linter.unusedSimpArgs false
attribute [local go_sem] W_skip W_keep KQ_canon canon Fr.norm W_seq W_block W_exit W_ret W_ops W_draw KQ_nil KQ_norm_seq KQ_exit_seq KQ_ret_seq KQ_norm_block KQ_ret_block KQ_exit_block KQ_exit_loop KQ_ret_loop O_nil O_cons S_call S_mv SE_mv SD_mv S_pick SE_pick SD_pick S_bin SE_bin SD_bin S_eqb SE_eqb SD_eqb S_eqv SE_eqv SD_eqv S_eqnil SE_eqnil SD_eqnil S_un SE_un SD_un S_conv SE_conv SD_conv S_mkfn SE_mkfn SD_mkfn S_load SE_load SD_load S_nilck SE_nilck SD_nilck S_slS SE_slS SD_slS S_slP SE_slP SD_slP S_fldA SE_fldA SD_fldA S_fld SE_fld SD_fld S_ixS SE_ixS SD_ixS S_ixP SE_ixP SD_ixP S_ixV SE_ixV SD_ixV S_ixStr SE_ixStr SD_ixStr S_ext SE_ext SD_ext S_len SE_len SD_len S_lenStr SE_lenStr SD_lenStr S_lenc SE_lenc SD_lenc S_mn SE_mn SD_mn S_mx SE_mx SD_mx S_build SE_build SD_build S_alloc SD_alloc S_box SD_box S_bslice SD_bslice S_mksl SD_mksl S_store SD_store S_append SD_append S_copy SD_copy S_clr SD_clr aq_some aa_some al_some aqd_some aad_some ald_some ape_some D_done D_both D_early D_step SE_call SD_call IOpd.ev Fr.get Fr.put Fr.putd entryFr pickA binA binI isSh shI eqbA eqvA ints ints_mI Option.map_some eqnilA unA convA loadA nilckA intA slSA slPA fldAA fldVA ixSA ixPA ixVA ixStrA extA lenA lenStrA mnA mxA AVal.fits fillA fillOk buildA opa srcA appA stoA copA clrA rdFree zeros List.length_nil List.length_cons List.length_map List.map_cons List.map_nil Option.map_some Option.map_none if_true if_false ite_true ite_false true_and and_true and_self implies_true forall_const true_implies Bool.false_eq_true Bool.not_true Bool.not_false decide_eq_true_eq decide_eq_false_iff_not eq_self List.getElem?_cons_zero List.getElem?_cons_succ List.getElem?_nil List.set_cons_zero List.set_cons_succ List.nil_append List.cons_append List.append_nil List.replicate_zero List.replicate_succ Nat.zero_add false_implies rng_lt rng_end rng_get cells_I cells_B cells_sl cut_one Int.toNat_natCast Int.natCast_nonneg List.headD_cons Int.lt_irrefl not_false_eq_true decide_false decide_true mI_length mI_cells mI_sz mI_isCell mI_mid mI_append mI_take mI_drop cells_val cells_own cells_agg isCell_I isCell_B isCell_nil isCell_sl isCell_own isCell_ptr isCell_fn isCell_rp isCell_yld cellsOk_I cellsOk_B cellsOk_nil cellsOk_sl cellsOk_own cellsOk_ptr cellsOk_fn cellsOk_rp cellsOk_yld cellsOk_agg cells_nil cells_ptr cells_fn cells_rp List.all_cons List.all_nil Bool.and_true Nat.mul_one Nat.zero_mul Nat.one_mul List.take_zero List.take_nil List.drop_nil List.drop_zero List.not_mem_nil Nat.le_refl Nat.zero_le mS_length mS_cells mS_sz mS_isCell mS_mid mS_append mS_take mS_drop cells_sI isCell_sI cellsOk_sI sI_eq succ_le_self' List.take_succ_cons List.drop_succ_cons List.take_length beq_self_eq_true List.mem_cons or_false forall_eq mI_put mI_rep O_guard' D_earlyG' D_stepG' W_cond' G_tt G_tf G_ft G_ff GE_tt GE_tf GE_ft GE_ff GS_tt GS_tf GS_ft GS_ff G_u GE_u GS_u IC_t IC_f xft xff xtt xtf z00 z20 z22 z02 zz tn0

/-- All piles of n leaves that begin with some, m more. -/
def ext (n : Nat) : Nat → Int → List Int → List (List Int)
  | 0, _, D => [D]
  | m + 1, used, D => (List.range n).flatMap fun (x : Nat) => if (Sp.bitAt used x == 0) = true then ext n m (Sp.orI used (Sp.shl1 x)) (D ++ [(x : Int)]) else []

theorem range_split {n x : Nat} (h : x < n) : ∃ r, List.range n = List.range (x + 1) ++ r := ⟨(List.range n).drop (x + 1), by
  have : (List.range n).take (x + 1) = List.range (x + 1) := by rw [List.take_range]; congr 1; omega
  rw [← this, List.take_append_drop]⟩

def growV (y p g n : Nat) : AVal := .fn (.func 75) [] [.ptr p 0, .rp [I n], .ptr y 0, .ptr g 0]

section
variable {c : Cl} {b0 L n y p g : Nat}
/-- The pile that grows. -/
def PV (c : Cl) (b0 y p g : Nat) (γ : c.Γ) (H : AHeap) (D : List Int) (pv : AVal) : Prop :=
  (pv = nilSl ∧ D = []) ∨ ∃ k lb cs, pv = .own k 0 D.length lb 1 ∧ H[k]? = some (.cells cs) ∧ cs.length = lb ∧ cs.take D.length = mI D ∧ D.length ≤ lb ∧ ¬ c.mine γ k ∧ b0 ≤ k ∧ k ≠ y ∧ k ≠ p ∧ k ≠ g
structure GSt (c : Cl) (b0 L n y p g : Nat) (D : List Int) (γ : c.Γ) (H : AHeap) : Prop where
  ok : c.ok γ H
  hy : H[y]? = some (.cells [.yld L])
  hg : H[g]? = some (.cells [growV y p g n])
  hp : ∃ pv, H[p]? = some (.cells [pv]) ∧ PV c b0 y p g γ H D pv
  my : ¬ c.mine γ y
  mp : ¬ c.mine γ p
  mg : ¬ c.mine γ g
theorem GSt.keep {D : List Int} {γ γ1 : c.Γ} {H H1 : AHeap} (h : GSt c b0 L n y p g D γ H) (ht : c.To H.length γ H γ1 H1) : GSt c b0 L n y p g D γ1 H1 := by
  have lt : ∀ {j b}, H[j]? = some b → j < H.length := fun hj => (List.getElem?_eq_some_iff.1 hj).1
  have nm : ∀ {j}, j < H.length → ¬ c.mine γ j → ¬ c.mine γ1 j := fun hj hm hm' => (ht.own _ hm').elim hm fun h => by omega
  obtain ⟨pv, hpv, hv⟩ := h.hp
  refine ⟨ht.ok, ?_, ?_, ⟨pv, ?_, ?_⟩, nm (lt h.hy) h.my, nm (lt hpv) h.mp, nm (lt h.hg) h.mg⟩
  · rw [ht.kept _ (lt h.hy) h.my]; exact h.hy
  · rw [ht.kept _ (lt h.hg) h.mg]; exact h.hg
  · rw [ht.kept _ (lt hpv) h.mp]; exact hpv
  · rcases hv with hv | ⟨k, lb, cs, h1, h2, h3, h4, h5, h6, h7⟩
    · exact .inl hv
    · exact .inr ⟨k, lb, cs, h1, by rw [ht.kept _ (lt h2) h6]; exact h2, h3, h4, h5, nm (lt h2) h6, h7⟩
/-- Blocks that are nobody's are written. -/
theorem Cl.To.write {γ : c.Γ} {H H' : AHeap} (h : c.ok γ H) (hl : H.length ≤ H'.length) (hk : ∀ j, c.mine γ j → H'[j]? = H[j]?) (hb : ∀ j, j < b0 → H'[j]? = H[j]?) (hok : ∀ LP, HOk LP H → HOk LP H') : c.To b0 γ H γ H' :=
  ⟨c.frame γ H H' h hk, hok, hl, fun j hj _ => hb j hj, fun j hj => .inl hj⟩

theorem push_aux {D : List Int} {γ : c.Γ} {H H2 : AHeap} (hbp : b0 ≤ p) (hyp : y ≠ p) (hpg : p ≠ g) (h : GSt c b0 L n y p g D γ H) {x : Int} (bad : Nat → Prop) {k' lb' : Nat} {cs' : List AVal}
    (hl : H.length ≤ H2.length) (hkeep : ∀ j, j < H.length → ¬ bad j → H2[j]? = H[j]?) (hbad : ∀ j, bad j → ¬ c.mine γ j ∧ b0 ≤ j ∧ j ≠ y ∧ j ≠ p ∧ j ≠ g)
    (hk' : H2[k']? = some (.cells cs')) (hc : cs'.length = lb') (ht : cs'.take (D.length + 1) = mI (D ++ [x])) (hlb : D.length + 1 ≤ lb') (hm : ¬ c.mine γ k' ∧ b0 ≤ k' ∧ k' ≠ y ∧ k' ≠ p ∧ k' ≠ g) (hok : ∀ LP, HOk LP H → HOk LP H2) :
    GSt c b0 L n y p g (D ++ [x]) γ (H2.set p (.cells [.own k' 0 (D.length + 1) lb' 1])) ∧ c.To b0 γ H γ (H2.set p (.cells [.own k' 0 (D.length + 1) lb' 1])) := by
  have lt : ∀ {H : AHeap} {j b}, H[j]? = some b → j < H.length := fun hj => (List.getElem?_eq_some_iff.1 hj).1
  obtain ⟨pv, hpv, -⟩ := h.hp
  have hpl := lt hpv
  have hpl2 : p < H2.length := by omega
  have hkl := lt hk'
  have kp : ∀ j, j < H.length → ¬ bad j → j ≠ p → (H2.set p (.cells [.own k' 0 (D.length + 1) lb' 1]))[j]? = H[j]? := fun j hj hb hjp => by
    rw [List.getElem?_set_ne (Ne.symm hjp)]; exact hkeep j hj hb
  have nb : ∀ j, ¬ (¬ c.mine γ j ∧ b0 ≤ j ∧ j ≠ y ∧ j ≠ p ∧ j ≠ g) → ¬ bad j := fun j hn hb => hn (hbad j hb)
  have hto : c.To b0 γ H γ (H2.set p (.cells [.own k' 0 (D.length + 1) lb' 1])) := by
    have hmn : ∀ j, c.mine γ j → (H2.set p (.cells [.own k' 0 (D.length + 1) lb' 1]))[j]? = H[j]? := fun j hj =>
      kp j (c.lt γ H j h.ok hj) (nb j fun hh => hh.1 hj) fun hjp => h.mp (hjp ▸ hj)
    have hlow : ∀ j, j < b0 → (H2.set p (.cells [.own k' 0 (D.length + 1) lb' 1]))[j]? = H[j]? := fun j hj =>
      kp j (by omega) (nb j fun hh => by omega) (by omega)
    exact Cl.To.write h.ok (by rw [List.length_set]; exact hl) hmn hlow fun LP h0 => (hok LP h0).set (by simp [blkN, vid, hkl])
  refine ⟨⟨hto.ok, ?_, ?_, ⟨_, by rw [List.getElem?_set_self hpl2], .inr ⟨k', lb', cs', by simp, ?_, hc, by simpa using ht, by simpa using hlb, hm⟩⟩, h.my, h.mp, h.mg⟩, hto⟩
  · rw [kp y (lt h.hy) (nb y fun hh => hh.2.2.1 rfl) hyp]; exact h.hy
  · rw [kp g (lt h.hg) (nb g fun hh => hh.2.2.2.2 rfl) (Ne.symm hpg)]; exact h.hg
  · rw [List.getElem?_set_ne (Ne.symm hm.2.2.2.1)]; exact hk'

/-- A leaf more on the pile. -/
theorem push {D : List Int} {γ : c.Γ} {H : AHeap} (hbp : b0 ≤ p) (hby : b0 ≤ y) (hyp : y ≠ p) (hpg : p ≠ g) (h : GSt c b0 L n y p g D γ H) (x : Int) (hD : D.length ≤ 1000) {pv : AVal} (hpv : H[p]? = some (.cells [pv])) (hv : PV c b0 y p g γ H D pv) :
    ∃ pr v' H2, appA 1 8 pv (.own H.length 0 1 1 1) (H ++ [.cells [I x]]) (H.length + 1) (fun H b => H ++ [b]) = some (pr, v', H2) ∧ pr ∧ v'.cellsOk = true ∧ v'.cells = [v'] ∧ H2[p]? = some (.cells [pv]) ∧
      GSt c b0 L n y p g (D ++ [x]) γ (H2.set p (.cells [v'])) ∧ c.To b0 γ H γ (H2.set p (.cells [v'])) := by
  have lt : ∀ {j b}, H[j]? = some b → j < H.length := fun hj => (List.getElem?_eq_some_iff.1 hj).1
  have ltm : ∀ {j}, c.mine γ j → j < H.length := fun hm => c.lt γ H _ h.ok hm
  have hpl := lt hpv
  have hyl := lt h.hy
  have hgl := lt h.hg
  have src : srcA 1 (.own H.length 0 1 1 1) (H ++ [.cells [I x]]) = some (1, [I x], (0 + 1 * 1 ≤ [I x].length ∧ ∀ u ∈ [I x], u.isCell = true)) := by
    simp [srcA]
  have pr0 : 0 + 1 * 1 ≤ [I x].length ∧ ∀ u ∈ [I x], u.isCell = true := ⟨by simp, by simp; rfl⟩
  have one : ∀ LP, HOk LP H → HOk LP (H ++ [.cells [I x]]) := fun LP h0 => h0.push rfl
  unfold appA
  rw [src]
  dsimp only
  rcases hv with ⟨rfl, rfl⟩ | ⟨k, lb, cs, rfl, hk, hcl, htk, hle, hkm⟩
  · refine ⟨_, _, _, rfl, ⟨pr0, by omega⟩, rfl, rfl, by rw [List.append_assoc, List.getElem?_append_left hpl]; exact hpv, ?_⟩
    exact push_aux hbp hyp hpg h (fun _ => False) (k' := H.length + 1) (lb' := 1) (cs' := [I x]) (by simp) (fun j hj _ => by rw [List.append_assoc, List.getElem?_append_left hj]) (fun _ h => h.elim) (by simp) rfl rfl (by simp)
      ⟨fun hm => by have := ltm hm; omega, by omega, by omega, by omega, by omega⟩ fun LP h0 => (one LP h0).push rfl
  · have hkl := lt hk
    have hk1 : (H ++ [Blk.cells [I x]])[k]? = some (.cells cs) := by rw [List.getElem?_append_left hkl]; exact hk
    have e1 : 0 + D.length * 1 = D.length := by omega
    have e2 : 0 + D.length * 1 + 1 * 1 = D.length + 1 := by omega
    have e3 : D.length * 1 = D.length := by omega
    dsimp only
    rw [if_pos rfl, hk1]
    dsimp only
    by_cases hlt : D.length + 1 ≤ lb
    · rw [if_pos hlt]
      refine ⟨_, _, _, rfl, ⟨pr0, by omega⟩, rfl, rfl, by rw [List.getElem?_set_ne hkm.2.2.2.1, List.getElem?_append_left hpl]; exact hpv, ?_⟩
      rw [e2, e1]
      have hcells : cs.take D.length ++ [I x] = mI (D ++ [x]) := by rw [htk]; exact mI_snoc
      refine push_aux hbp hyp hpg h (fun j => j = k) (k' := k) (lb' := lb) (cs' := cs.take D.length ++ [I x] ++ cs.drop (D.length + 1)) (by simp) (fun j hj hne => by rw [List.getElem?_set_ne (Ne.symm hne), List.getElem?_append_left hj]) (fun j hj => by subst hj; exact hkm)
        (by rw [List.getElem?_set_self (by simp; omega)]) (by simp; omega) ?_ hlt hkm fun LP h0 => (one LP h0).set ?_
      · rw [hcells, List.take_append_of_le_length (by rw [mI_length]; simp), List.take_of_length_le (by rw [mI_length]; simp)]
      · have hb := h0.cells hk
        show (bndL 0 _ || List.all _ _) = true
        rw [Bool.or_eq_true] at hb ⊢
        rw [hcells]
        rcases hb with hb | hb
        · left
          rw [bndL_append, mI_bnd, Bool.true_and]
          exact bndL_of fun u hu => bndL_mem hb u (List.mem_of_mem_drop hu)
        · right
          rw [List.all_append, Bool.and_eq_true]
          exact ⟨List.all_eq_true.2 fun u hu => by obtain ⟨z, _, rfl⟩ := List.mem_map.1 hu; rfl, List.all_eq_true.2 fun u hu => vid_mono (by simp) 2 u (List.all_eq_true.1 hb u (List.mem_of_mem_drop hu))⟩
    · rw [if_neg hlt]
      have hcells : cs.take D.length ++ [I x] = mI (D ++ [x]) := by rw [htk]; exact mI_snoc
      refine ⟨_, _, _, rfl, ⟨pr0, rfl, by omega, by rw [e3, htk, mI_isCell]; trivial, by omega⟩, rfl, rfl, by rw [List.getElem?_append_left (by simp; omega), List.getElem?_set_ne hkm.2.2.2.1, List.getElem?_append_left hpl]; exact hpv, ?_⟩
      rw [e3, hcells]
      refine push_aux hbp hyp hpg h (fun j => j = k) (k' := H.length + 1) (lb' := D.length + 1) (cs' := mI (D ++ [x])) (by simp; omega) (fun j hj hne => by rw [List.getElem?_append_left (by simp; omega), List.getElem?_set_ne (Ne.symm hne), List.getElem?_append_left hj]) (fun j hj => by subst hj; exact hkm)
        (by rw [List.getElem?_append_right (by simp)]; simp) (by rw [mI_length]; simp) (List.take_of_length_le (by rw [mI_length]; simp)) (Nat.le_refl _) ⟨fun hm => by have := ltm hm; omega, by omega, by omega, by omega, by omega⟩ fun LP h0 => ((one LP h0).set (b := .dead) trivial).push ?_
      show (bndL 0 _ || _) = true
      rw [mI_bnd]; rfl

/-- A leaf less. -/
theorem pop {D : List Int} {γ : c.Γ} {H : AHeap} (hbp : b0 ≤ p) (hyp : y ≠ p) (hpg : p ≠ g) {x : Int} (h : GSt c b0 L n y p g (D ++ [x]) γ H) :
    ∃ k lb, H[p]? = some (.cells [.own k 0 (D.length + 1) lb 1]) ∧ D.length ≤ lb ∧ GSt c b0 L n y p g D γ (H.set p (.cells [.own k 0 D.length lb 1])) ∧ c.To b0 γ H γ (H.set p (.cells [.own k 0 D.length lb 1])) := by
  have lt : ∀ {H : AHeap} {j b}, H[j]? = some b → j < H.length := fun hj => (List.getElem?_eq_some_iff.1 hj).1
  obtain ⟨pv, hpv, hv⟩ := h.hp
  have hpl := lt hpv
  rcases hv with ⟨_, h0⟩ | ⟨k, lb, cs, rfl, hk, hcl, htk, hle, hkm⟩
  · exact absurd h0 (by simp)
  have hkl := lt hk
  rw [List.length_append, List.length_singleton] at hpv htk hle
  have htk' : cs.take D.length = mI D := by
    have := congrArg (List.take D.length) htk
    rwa [List.take_take, show min D.length (D.length + 1) = D.length by omega, mI_take, List.take_left] at this
  have kp : ∀ j, j ≠ p → (H.set p (.cells [.own k 0 D.length lb 1]))[j]? = H[j]? := fun j hjp => List.getElem?_set_ne (Ne.symm hjp)
  have hto : c.To b0 γ H γ (H.set p (.cells [.own k 0 D.length lb 1])) :=
    Cl.To.write h.ok (by simp) (fun j hj => kp j fun hjp => h.mp (hjp ▸ hj)) (fun j hj => kp j (by omega)) fun LP h0 => h0.set (by simp [blkN, vid, hkl])
  refine ⟨k, lb, hpv, by omega, ⟨hto.ok, ?_, ?_, ⟨_, by rw [List.getElem?_set_self hpl], .inr ⟨k, lb, cs, rfl, by rw [kp k hkm.2.2.2.1]; exact hk, hcl, htk', by omega, hkm⟩⟩, h.my, h.mp, h.mg⟩, hto⟩
  · rw [kp y hyp]; exact h.hy
  · rw [kp g (Ne.symm hpg)]; exact h.hg

set_option maxHeartbeats 2000000 in
theorem s75 (hn : n ≤ 8) (hbp : b0 ≤ p) (hby : b0 ≤ y) (hyp : y ≠ p) (hpg : p ≠ g) {dom : c.σ → List Int → Prop} (Y : YOk Try.prog c L n dom) :
    ∀ (m : Nat) (used : Int) (D : List Int) (γ : c.Γ) (H : AHeap), D.length + m = n → 1 ≤ n → AheadOk c.go c.upd dom (c.val γ) (ext n m used D) → c.live γ → HOk (LPb H.length) H → GSt c b0 L n y p g D γ H →
      Abs.Spec Try.prog 75 [I used, .ptr p 0, .rp [I n], .ptr y 0, .ptr g 0] H fun v H' => v = B (run c.go c.upd (c.val γ) (ext n m used D)).2 ∧ ∃ γ', c.val γ' = (run c.go c.upd (c.val γ) (ext n m used D)).1 ∧ ((run c.go c.upd (c.val γ) (ext n m used D)).2 = true → c.live γ') ∧ GSt c b0 L n y p g D γ' H' ∧ c.To b0 γ H γ' H'
  | 0, used, D, γ, H, hm, h1, hdom, hlive, hok, hg => by
    obtain ⟨pv, hpv, hv⟩ := hg.hp
    refine Abs.Spec.walk mixed fn75 nn75 t75 q75 nt75 (by simp) ?_
    rcases hv with ⟨rfl, rfl⟩ | ⟨k, lb, cs, rfl, hk, hcl, htk, hle, hkm⟩
    · simp at hm; omega
    have hz : ((D.length : Int) == n) = true := by rw [beq_iff_eq]; omega
    simp only [w75, hpv, hg.hy, hz, go_sem, Nat.reduceEqDiff, Nat.reduceAdd, Nat.reduceLT, Nat.reduceLeDiff, reduceIte, reduceCtorEq]
    have hDn : D.length = n := by omega
    rw [hDn]
    refine CallK.by (Y γ H k lb cs D hg.ok hlive hok hkm.1 hk (by rw [← hDn]; exact htk) hDn (by omega) (hdom [] D [] rfl rfl)) fun v H' ⟨hv, γ', hval, hlv, hto⟩ => ?_
    subst hv
    simp only [go_sem, Nat.reduceEqDiff, Nat.reduceAdd, Nat.reduceLT, Nat.reduceLeDiff, reduceIte, reduceCtorEq]
    have hto' : c.To b0 γ H γ' H' := hto.le (by have := (List.getElem?_eq_some_iff.1 hg.hy).1; omega)
    refine leafN (LP := LPb H.length) (B _) rfl (hto.hok _ hok) (fun _ _ h => h) hto.len rfl ⟨?_, γ', ?_, ?_, hg.keep hto, hto'⟩
    · rw [ext, run]; cases c.go (c.val γ) D <;> rfl
    · rw [ext, run]; cases c.go (c.val γ) D <;> exact hval
    · rw [ext, run]; intro h; cases hgo : c.go (c.val γ) D with
      | true => exact hlv hgo
      | false => rw [hgo] at h; cases h
  | m + 1, used, D, γ, H, hm, h1, hdom, hlive, hok, hg => by
    have lt : ∀ {H : AHeap} {j b}, H[j]? = some b → j < H.length := fun hj => (List.getElem?_eq_some_iff.1 hj).1
    obtain ⟨pv, hpv, hv⟩ := hg.hp
    have hpl := lt hpv
    have hyl := lt hg.hy
    have hgl := lt hg.hg
    obtain ⟨F, hF⟩ : ∃ F : Nat → List (List Int), F = fun (x : Nat) => if (Sp.bitAt used x == 0) = true then ext n m (Sp.orI used (Sp.shl1 x)) (D ++ [(x : Int)]) else [] := ⟨_, rfl⟩
    have hE : ext n (m + 1) used D = (List.range n).flatMap F := by rw [ext, hF]
    rw [hE]
    refine Abs.Spec.walk mixed fn75 nn75 t75 q75 nt75 (by simp) ?_
    have hz : ((D.length : Int) == n) = false := by rw [beq_eq_false_iff_ne]; omega
    have body : ∀ fr : Fr, fr.get 0 = I used → fr.get 1 = ptr p 0 → fr.get 4 = ptr g 0 → fr.get 16 = I n → fr.get 17 = I 0 → W ⟨Try.prog, H.length, 43, true⟩ (retA H.length r75 fun v H' => v = B (run c.go c.upd (c.val γ) ((List.range n).flatMap F)).2 ∧ ∃ γ', c.val γ' = (run c.go c.upd (c.val γ) ((List.range n).flatMap F)).1 ∧ ((run c.go c.upd (c.val γ) ((List.range n).flatMap F)).2 = true → c.live γ') ∧ GSt c b0 L n y p g D γ' H' ∧ c.To b0 γ H γ' H')
        (.loop c75L0) [.block 0, .seq c75T1] fr H [] := by
      intro fr f0 f1 f4 f16 f17
      refine W_loop (fun q : { q : Nat × c.Γ × AHeap // q.1 ≤ n ∧ GSt c b0 L n y p g D q.2.1 q.2.2 ∧ c.To b0 γ H q.2.1 q.2.2 ∧ run c.go c.upd (c.val γ) ((List.range q.1).flatMap F) = (c.val q.2.1, true) ∧ c.live q.2.1 } =>
        ([(0, I used), (1, ptr p 0), (4, ptr g 0), (16, I n), (17, I q.1.1)], q.1.2.2)) (fun q => n - q.1.1)
        ⟨(0, γ, H), by omega, hg, .refl hg.ok, rfl, hlive⟩ (idρ H.length) (Wk.ok hok (fun _ _ h => h) (Nat.le_refl _) (by
          intro q hq
          simp only [List.mem_cons, List.not_mem_nil, or_false] at hq
          rcases hq with rfl | rfl | rfl | rfl | rfl <;> exact ⟨by first | exact f0 | exact f1 | exact f4 | exact f16 | exact f17, by simp [vid, hpl, hgl]⟩) (fun _ h => by cases h)) ?_
      rintro ⟨⟨x, γ1, H1⟩, hxn, hg1, hto1, hrun, hlive1⟩
      dsimp only at hxn hg1 hto1 hrun hlive1 ⊢
      have hok1 := hto1.hok _ hok
      by_cases hxl : x < n
      · have hzx : decide ((x : Int) < n) = true := decide_eq_true (by omega)
        have hwx : IntKind.i64.wrap ((x : Int) + 1) = ((x + 1 : Nat) : Int) := by rw [wrap64 (by omega) (by omega)]; rfl
        obtain ⟨pv1, hpv1, hv1⟩ := hg1.hp
        have hpl1 := lt hpv1
        have hgl1 := lt hg1.hg
        simp only [w75L0, hzx, go_sem, Nat.reduceEqDiff, Nat.reduceAdd, Nat.reduceLT, Nat.reduceLeDiff, reduceIte, reduceCtorEq]
        refine IC.split (fun hb => ?_) fun hb => ?_
        · have hb : (Sp.bitAt used (x : Int) == 0) = true := hb
          have hFx : F x = ext n m (Sp.orI used (Sp.shl1 x)) (D ++ [(x : Int)]) := by rw [hF]; simp only [hb, if_true]
          obtain ⟨pr, v', H2, hA, hpr, hco, hcv, hp2, hg2, hto2⟩ := push hbp hby hyp hpg hg1 (x : Int) (by omega) hpv1 hv1
          simp only [hpv1, List.getElem?_append_left, hpl1, ↓S_appB, go_sem, Nat.reduceEqDiff, Nat.reduceAdd, Nat.reduceLT, Nat.reduceLeDiff, reduceIte, reduceCtorEq]
          have hA' : appB 1 8 pv1 (.own H1.length 0 1 1 1) (H1 ++ [.cells [I x]]) (List.length (H1 ++ [Blk.cells [I x]])) (fun H b => H ++ [b]) = some (pr, v', H2) := by
            rw [appB, List.length_append]; exact hA
          rw [hA', al_some]
          refine ⟨hpr, ?_⟩
          simp only [hp2, hco, hcv, hg2.hg, growV, go_sem, Nat.reduceEqDiff, Nat.reduceAdd, Nat.reduceLT, Nat.reduceLeDiff, reduceIte, reduceCtorEq]
          generalize H2.set p (.cells [v']) = H3 at hg2 hto2 ⊢
          have hl3 := hto2.len
          have hl1 := hto1.len
          have hok3 : HOk (LPb H3.length) H3 := (hto2.hok _ hok1).mono fun _ _ h => h.mono (by omega)
          refine CallKD.by (CallV.of_spec (s75 hn hbp hby hyp hpg Y m (Sp.orI used (Sp.shl1 x)) (D ++ [(x : Int)]) γ1 H3 (by rw [List.length_append]; simp; omega) h1 (by
            obtain ⟨r, hr⟩ := range_split hxl
            rw [hE, hr, List.range_succ, List.flatMap_append, List.flatMap_append, List.append_assoc] at hdom
            have := hdom.part hrun
            rwa [show [x].flatMap F = F x by simp, hFx] at this) hlive1 hok3 hg2)) fun v H4 ⟨hv, γ4, hval4, hlv4, hg4, hto4⟩ => ?_
          subst hv
          rw [← hFx] at hval4 hlv4 ⊢
          obtain ⟨k4, lb4, hp4, hlb4, hg5, hto5⟩ := pop hbp hyp hpg hg4
          have hsub : IntKind.i64.wrap (((D.length + 1 : Nat) : Int) - 1) = D.length := by rw [wrap64 (by omega) (by omega)]; omega
          have hto6 := ((hto1.trans hto2).trans hto4).trans hto5
          simp only [hp4, hsub, Nat.sub_zero, go_sem, Nat.reduceEqDiff, Nat.reduceAdd, Nat.reduceLT, Nat.reduceLeDiff, reduceIte, reduceCtorEq]
          refine ⟨⟨by omega, by omega, .inl trivial⟩, ?_⟩
          generalize H4.set p (.cells [.own k4 0 D.length lb4 1]) = H5 at hg5 hto6 ⊢
          have hok5 := hto6.hok _ hok
          have hstep : run c.go c.upd (c.val γ) ((List.range (x + 1)).flatMap F) = (c.val γ4, (run c.go c.upd (c.val γ1) (F x)).2) := by
            rw [List.range_succ, List.flatMap_append, run_append, hrun]
            simp only [if_true, List.flatMap_cons, List.flatMap_nil, List.append_nil]
            rw [hval4]
          have hpl5 := lt hg5.hp.choose_spec.1
          have hgl5 := lt hg5.hg
          refine IC.split (fun hc => ?_) fun hc => ?_
          · have hc : (run c.go c.upd (c.val γ1) (F x)).2 = false := by simpa using hc
            rw [hc] at hstep
            have hall : run c.go c.upd (c.val γ) ((List.range n).flatMap F) = (c.val γ4, false) := by
              obtain ⟨r, hr⟩ := range_split hxl
              rw [hr, List.flatMap_append, run_append, hstep]; rfl
            simp only [go_sem, Nat.reduceEqDiff, Nat.reduceAdd, Nat.reduceLT, Nat.reduceLeDiff, reduceIte, reduceCtorEq]
            exact leafN (LP := LPb H.length) (B false) rfl hok5 (fun _ _ h => h) hto6.len rfl ⟨by rw [hall], γ4, by rw [hall], (by rw [hall]; intro h; cases h), hg5, hto6⟩
          · have hc : (run c.go c.upd (c.val γ1) (F x)).2 = true := by simpa using hc
            rw [hc] at hstep
            simp only [hwx, go_sem, Nat.reduceEqDiff, Nat.reduceAdd, Nat.reduceLT, Nat.reduceLeDiff, reduceIte, reduceCtorEq]
            refine roundN (LP := LPb H.length) hok5 (fun _ _ h => h) hto6.len ⟨(x + 1, γ4, H5), by omega, hg5, hto6, hstep, hlv4 hc⟩ (by dsimp only; omega) rfl ?_
            intro q hq
            simp only [List.mem_cons, List.not_mem_nil, or_false] at hq
            rcases hq with rfl | rfl | rfl | rfl | rfl <;> exact ⟨rfl, by simp [vid, hpl5, hgl5]⟩
        · have hb : (Sp.bitAt used (x : Int) == 0) = false := hb
          have hFx : F x = [] := by rw [hF]; simp only [hb]; rfl
          simp only [hwx, go_sem, Nat.reduceEqDiff, Nat.reduceAdd, Nat.reduceLT, Nat.reduceLeDiff, reduceIte, reduceCtorEq]
          refine roundN (LP := LPb H.length) hok1 (fun _ _ h => h) hto1.len ⟨(x + 1, γ1, H1), by omega, hg1, hto1, (by rw [List.range_succ, List.flatMap_append, run_append, hrun]; simp [hFx, run]), hlive1⟩ (by dsimp only; omega) rfl ?_
          intro q hq
          simp only [List.mem_cons, List.not_mem_nil, or_false] at hq
          rcases hq with rfl | rfl | rfl | rfl | rfl <;> exact ⟨rfl, by simp [vid, hpl1, hgl1]⟩
      · have hz' : decide ((x : Int) < n) = false := decide_eq_false (by omega)
        obtain rfl : x = n := by omega
        simp only [w75L0, hz', w75T1, go_sem, Nat.reduceEqDiff, Nat.reduceAdd, Nat.reduceLT, Nat.reduceLeDiff, reduceIte, reduceCtorEq]
        refine leafN (LP := LPb H.length) (B true) rfl hok1 (fun _ _ h => h) hto1.len rfl ⟨by rw [hrun], γ1, by rw [hrun], fun _ => hlive1, hg1, hto1⟩
    rcases hv with ⟨rfl, rfl⟩ | ⟨k, lb, cs, rfl, hk, hcl, htk, hle, hkm⟩
    · have hz0 : ((0 : Int) == n) = false := by rw [beq_eq_false_iff_ne]; omega
      simp only [w75, hpv, hz0, go_sem, Nat.reduceEqDiff, Nat.reduceAdd, Nat.reduceLT, Nat.reduceLeDiff, reduceIte, reduceCtorEq]
      exact body _ rfl rfl rfl rfl rfl
    · simp only [w75, hpv, hz, go_sem, Nat.reduceEqDiff, Nat.reduceAdd, Nat.reduceLT, Nat.reduceLeDiff, reduceIte, reduceCtorEq]
      exact body _ rfl rfl rfl rfl rfl

/-- All piles. -/
def pilesA (n : Nat) : List (List Int) := ext n n 0 []

set_option maxHeartbeats 1000000 in
theorem s74 (hn : n ≤ 8) (h1 : 1 ≤ n) {dom : c.σ → List Int → Prop} (Y : YOk Try.prog c L n dom) {γ : c.Γ} {H : AHeap} (hdom : AheadOk c.go c.upd dom (c.val γ) (pilesA n)) (hlive : c.live γ) (hok : HOk (LPb H.length) H) (hc : c.ok γ H) (hL : L < H.length) :
    Abs.Spec Try.prog 74 [.yld L, .rp [I n]] H fun v H' => v = .tup [] ∧ ∃ γ', c.val γ' = (run c.go c.upd (c.val γ) (pilesA n)).1 ∧ c.To H.length γ H γ' H' := by
  refine Abs.Spec.walk mixed fn74 nn74 t74 q74 nt74 (by simp) ?_
  simp only [w74, List.length_append, List.append_assoc, app_get, app_get0, app_set, app_set0, Nat.add_assoc, cells_yld, go_sem, Nat.reduceEqDiff, Nat.reduceAdd, Nat.reduceLT, Nat.reduceLeDiff, reduceIte, reduceCtorEq]
  have e : ∀ j, j < H.length → (H ++ [Blk.cells [yld L], .cells [nilSl], .cells [growV H.length (H.length + 1) (H.length + 2) n]])[j]? = H[j]? := fun j hj => List.getElem?_append_left hj
  have hto0 : c.To H.length γ H γ (H ++ [.cells [yld L], .cells [nilSl], .cells [growV H.length (H.length + 1) (H.length + 2) n]]) :=
    Cl.To.write hc (by simp) (fun j hj => e j (c.lt γ H j hc hj)) e fun LP h0 => by
      have k1 := h0.push (b := .cells [yld L]) (by simp [blkN, vid]; omega)
      have k2 := k1.push (b := .cells [nilSl]) (by simp [blkN, vid])
      have k3 := k2.push (b := .cells [growV H.length (H.length + 1) (H.length + 2) n]) (by simp [blkN, vid, growV, bndL, AVal.bnd]; omega)
      simpa using k3
  have nm : ∀ j, H.length ≤ j → ¬ c.mine γ j := fun j hj hm => by have := c.lt γ H j hc hm; omega
  have hg0 : GSt c H.length L n H.length (H.length + 1) (H.length + 2) [] γ (H ++ [.cells [yld L], .cells [nilSl], .cells [growV H.length (H.length + 1) (H.length + 2) n]]) :=
    ⟨hto0.ok, by simp, by simp, ⟨nilSl, by simp, .inl ⟨rfl, rfl⟩⟩, nm _ (by omega), nm _ (by omega), nm _ (by omega)⟩
  have hok1 := (hto0.hok _ hok).mono fun _ _ h => h.mono hto0.len
  refine CallK.by (CallV.of_spec (s75 hn (by omega) (Nat.le_refl _) (by omega) (by omega) Y n 0 [] γ _ (by simp) h1 hdom hlive hok1 hg0)) fun v H' ⟨_, γ', hval, _, _, hto⟩ => ?_
  simp only [go_sem, Nat.reduceEqDiff, Nat.reduceAdd, Nat.reduceLT, Nat.reduceLeDiff, reduceIte, reduceCtorEq]
  have hto1 := hto0.trans hto
  exact leafN0 (LP := LPb H.length) (hto1.hok _ hok) (fun _ _ h => h) hto1.len ⟨rfl, γ', hval, hto1⟩
end

theorem s64 (n : Int) : Abs.Spec Try.prog 64 [I n] [] fun v H' => H' = [] ∧ v = .fn (.func 74) [] [.rp [I n]] := by
  refine Abs.Spec.walk mixed fn64 nn64 t64 q64 nt64 (by simp) ?_
  simp only [w64, go_sem, Nat.reduceEqDiff, Nat.reduceAdd, Nat.reduceLT, Nat.reduceLeDiff, reduceIte, reduceCtorEq]
  exact leaf (.fn (.func 74) [] [.rp [I n]]) (by simp [vle, vle.vleL, Fr.get, bndL, AVal.bnd]) ⟨rfl, rfl⟩
theorem s65 (n : Int) : Abs.Spec Try.prog 65 [I n] [] fun v H' => H' = [] ∧ v = .fn (.func 76) [] [.rp [I n]] := by
  refine Abs.Spec.walk mixed fn65 nn65 t65 q65 nt65 (by simp) ?_
  simp only [w65, go_sem, Nat.reduceEqDiff, Nat.reduceAdd, Nat.reduceLT, Nat.reduceLeDiff, reduceIte, reduceCtorEq]
  exact leaf (.fn (.func 76) [] [.rp [I n]]) (by simp [vle, vle.vleL, Fr.get, bndL, AVal.bnd]) ⟨rfl, rfl⟩

theorem run_filter {σ α : Type} {go : σ → α → Bool} {upd : σ → α → σ} {P : α → Bool} : ∀ (l : List α) (s : σ),
    run (fun (q : σ × Bool) x => if P x then go q.1 x else true) (fun q x => if P x then (upd q.1 x, !go q.1 x) else (q.1, false)) (s, false) l = (((run go upd s (l.filter P)).1, !(run go upd s (l.filter P)).2), (run go upd s (l.filter P)).2)
  | [], s => rfl
  | x :: l, s => by
    rw [run]
    dsimp only
    by_cases hP : P x = true
    · rw [List.filter_cons_of_pos hP, run]
      simp only [hP, if_true]
      by_cases hg : go s x = true
      · simp only [hg, if_true, Bool.not_true]
        exact run_filter l _
      · simp [hg]
    · rw [List.filter_cons_of_neg hP]
      simp only [hP, Bool.false_eq_true, if_false, if_true]
      exact run_filter l s

/-- The possible piles of a strip. -/
def foldL (n : Nat) : List (List Int) := (pilesA n).filter fun D => Sp.possP D (Sp.stripC n)
/-- Leaves of n. -/
def domN (n : Nat) (D : List Int) : Prop := D.length = n ∧ ∀ x ∈ D, 0 ≤ x ∧ x < n
theorem ext_ok {n : Nat} : ∀ (m : Nat) (used : Int) (D : List Int), (∀ x ∈ D, 0 ≤ x ∧ x < n) → ∀ E ∈ ext n m used D, E.length = D.length + m ∧ ∀ x ∈ E, 0 ≤ x ∧ x < n
  | 0, used, D, hD, E, hE => by
    simp [ext] at hE; subst hE; exact ⟨rfl, hD⟩
  | m + 1, used, D, hD, E, hE => by
    rw [ext, List.mem_flatMap] at hE
    obtain ⟨x, hx, hE⟩ := hE
    have hx := List.mem_range.1 hx
    split at hE
    · obtain ⟨h1, h2⟩ := ext_ok m _ (D ++ [(x : Int)]) (fun y hy => by
        rcases List.mem_append.1 hy with hy | hy
        · exact hD y hy
        · simp at hy; subst hy; omega) E hE
      exact ⟨by rw [h1]; simp; omega, h2⟩
    · cases hE
theorem piles_ok {n : Nat} : ∀ E ∈ pilesA n, domN n E := fun E hE => by
  obtain ⟨h1, h2⟩ := ext_ok n 0 [] (by simp) E hE
  exact ⟨by rw [h1]; simp, h2⟩
theorem fold_ok {n : Nat} : ∀ E ∈ foldL n, domN n E := fun E hE => piles_ok E (List.mem_filter.1 hE).1

section
variable {c : Cl} {L n : Nat}
/-- The rounds of 'folded': whose they are. -/
noncomputable def cl76 (c : Cl) (n L a b L1 : Nat) (fr : Fr) : Cl where
  Γ := c.Γ × Bool
  σ := c.σ × Bool
  val q := (c.val q.1, q.2)
  live q := c.live q.1 ∧ q.2 = false
  ok q H := c.ok q.1 H ∧ H[a]? = some (.cells [.yld L]) ∧ H[b]? = some (.cells [.sl false false (mC (Sp.stripC n))]) ∧
    H[L1]? = some (.loop (if q.2 then .done else .ready) (if q.2 then some .ret else none) fr 19 #[9] (asOf Try.f76 0) (bdOf Try.f76 0)) ∧ ¬ c.mine q.1 a ∧ ¬ c.mine q.1 b ∧ ¬ c.mine q.1 L1
  mine q j := c.mine q.1 j ∨ j = a ∨ j = b ∨ j = L1
  go q D := if Sp.possP D (Sp.stripC n) then c.go q.1 D else true
  upd q D := if Sp.possP D (Sp.stripC n) then (c.upd q.1 D, !c.go q.1 D) else (q.1, false)
  frame := fun q H H' h hk => ⟨c.frame _ _ _ h.1 fun j hj => hk j (.inl hj), by rw [hk a (.inr (.inl rfl))]; exact h.2.1, by rw [hk b (.inr (.inr (.inl rfl)))]; exact h.2.2.1, by rw [hk L1 (.inr (.inr (.inr rfl)))]; exact h.2.2.2.1, h.2.2.2.2⟩
  lt := fun q H j h hm => by
    rcases hm with hm | rfl | rfl | rfl
    · exact c.lt _ _ _ h.1 hm
    · exact (List.getElem?_eq_some_iff.1 h.2.1).1
    · exact (List.getElem?_eq_some_iff.1 h.2.2.1).1
    · exact (List.getElem?_eq_some_iff.1 h.2.2.2.1).1

theorem to76 {a b L1 : Nat} (haL : a ≠ L1) (hbL : b ≠ L1) {fr : Fr} {γ γ1 : c.Γ} {H H1 : AHeap} (hok : (cl76 c n L a b L1 fr).ok (γ, false) H) {LP0 : Nat → Fr → Prop} (hH : HOk LP0 H)
    (hto : c.To H.length γ (H.set L1 (.loop .busy none fr 19 #[9] (asOf Try.f76 0) (bdOf Try.f76 0))) γ1 H1) (st : Bool) :
    H1[L1]? = some (.loop .busy none fr 19 #[9] (asOf Try.f76 0) (bdOf Try.f76 0)) ∧
    (cl76 c n L a b L1 fr).To H.length (γ, false) H (γ1, st) (H1.set L1 (.loop (if st then .done else .ready) (if st then some .ret else none) fr 19 #[9] (asOf Try.f76 0) (bdOf Try.f76 0))) := by
  obtain ⟨hc, ha, hb, hL1, ma, mb, mL⟩ := hok
  dsimp only at hc ha hb hL1 ma mb mL
  have lt : ∀ {H : AHeap} {j b}, H[j]? = some b → j < H.length := fun hj => (List.getElem?_eq_some_iff.1 hj).1
  have hlen := hto.len
  rw [List.length_set] at hlen
  have nm : ∀ {j}, j < H.length → ¬ c.mine γ j → ¬ c.mine γ1 j := fun hj hm hm' => (hto.own _ hm').elim hm fun h => by omega
  have kp : ∀ j, j < H.length → j ≠ L1 → ¬ c.mine γ j → (H1.set L1 (.loop (if st then .done else .ready) (if st then some .ret else none) fr 19 #[9] (asOf Try.f76 0) (bdOf Try.f76 0)))[j]? = H[j]? := fun j hj hne hm => by
    rw [List.getElem?_set_ne (Ne.symm hne), hto.kept j hj hm, List.getElem?_set_ne (Ne.symm hne)]
  have hL1l := lt hL1
  have hL1' : H1[L1]? = some (.loop .busy none fr 19 #[9] (asOf Try.f76 0) (bdOf Try.f76 0)) := by
    rw [hto.kept L1 hL1l mL, List.getElem?_set_self hL1l]
  have hfr : ∀ LP, HOk LP H → LP L1 fr := fun LP h0 => h0 L1 _ hL1
  refine ⟨hL1', ⟨c.frame _ _ _ hto.ok fun j hj => ?_, ?_, ?_, ?_, nm (lt ha) ma, nm (lt hb) mb, nm hL1l mL⟩, fun LP h0 => ?_, by rw [List.length_set]; exact hlen, fun j hj hm => kp j hj (fun h => hm (.inr (.inr (.inr h)))) fun h => hm (.inl h), fun j hj => ?_⟩
  · have : j ≠ L1 := fun h => nm hL1l mL (h ▸ hj)
    rw [List.getElem?_set_ne (Ne.symm this)]
  · rw [kp a (lt ha) haL ma]; exact ha
  · rw [kp b (lt hb) hbL mb]; exact hb
  · rw [List.getElem?_set_self (by omega)]
  · exact (hto.hok LP (h0.set (b := .loop .busy none fr 19 #[9] (asOf Try.f76 0) (bdOf Try.f76 0)) (hfr LP h0))).set (b := .loop _ _ fr 19 #[9] _ _) (hfr LP h0)
  · rcases hj with hj | hj
    · exact (hto.own j hj).imp .inl id
    · exact .inl (.inr hj)

/-- What comes to a round of 'folded'. -/
def dom76 {σ : Type} (dom : σ → List Int → Prop) (n : Nat) (q : σ × Bool) (D : List Int) : Prop := domN n D ∧ (Sp.possP D (Sp.stripC n) = true → dom q.1 D)
theorem comes76 {σ : Type} {go : σ → List Int → Bool} {upd : σ → List Int → σ} {dom : σ → List Int → Prop} {n : Nat} {s : σ} (h : AheadOk go upd dom s (foldL n)) :
    AheadOk (fun (q : σ × Bool) D => if Sp.possP D (Sp.stripC n) then go q.1 D else true) (fun q D => if Sp.possP D (Sp.stripC n) then (upd q.1 D, !go q.1 D) else (q.1, false)) (dom76 dom n) (s, false) (pilesA n) := fun pre E post he h2 => by
  have hr := run_filter (go := go) (upd := upd) (P := fun D => Sp.possP D (Sp.stripC n)) pre s
  rw [hr] at h2 ⊢
  refine ⟨piles_ok E (by rw [he]; simp), fun hp => h _ E (post.filter fun D => Sp.possP D (Sp.stripC n)) ?_ h2⟩
  rw [foldL, he, List.filter_append, List.filter_cons_of_pos (p := fun D => Sp.possP D (Sp.stripC n)) hp]

set_option maxHeartbeats 2000000 in
theorem y76 (hn : n ≤ 8) (h1 : 1 ≤ n) {a b L1 : Nat} (hab : a ≠ b) (haL : a ≠ L1) (hbL : b ≠ L1) {fr : Fr} (f2 : fr.get 2 = ptr a 0) (f3 : fr.get 3 = ptr b 0) {dom : c.σ → List Int → Prop} (Y : YOk Try.prog c L n dom) :
    YOk Try.prog (cl76 c n L a b L1 fr) L1 n (dom76 dom n) := by
  rintro ⟨γ, st⟩ H k lb cs D ⟨hc, ha, hb, hL1, ma, mb, mL⟩ ⟨hlive, hst⟩ hok hmk hk htk hDn hle hdom
  dsimp only at hc ha hb hL1 ma mb mL hlive hst
  subst hst
  have lt : ∀ {H : AHeap} {j b}, H[j]? = some b → j < H.length := fun hj => (List.getElem?_eq_some_iff.1 hj).1
  have hmk' : ¬ c.mine γ k ∧ k ≠ a ∧ k ≠ b ∧ k ≠ L1 := ⟨fun h => hmk (.inl h), fun h => hmk (.inr (.inl h)), fun h => hmk (.inr (.inr (.inl h))), fun h => hmk (.inr (.inr (.inr h)))⟩
  refine CallV.yldW mixed (L := L1) (fr := fr) (n := 19) (ps := [9]) hL1 t76R0a t76R0b rfl (by simp) ?_
  simp only [w76R0a, putArgs, go_sem, Nat.reduceEqDiff, Nat.reduceAdd, Nat.reduceLT, Nat.reduceLeDiff, reduceIte, reduceCtorEq]
  refine ⟨hL1, ?_⟩
  have hbL1 : L1 < H.length := lt hL1
  have hlp : LPb H.length L1 fr := hok L1 _ hL1
  have hok76 : (cl76 c n L a b L1 fr).ok (γ, false) H := ⟨hc, ha, hb, hL1, ma, mb, mL⟩
  have hto := to76 (c := c) (n := n) (L := L) (γ1 := γ) (H1 := H.set L1 (.loop .busy none fr 19 #[9] (asOf Try.f76 0) (bdOf Try.f76 0))) haL hbL hok76 hok (.refl (c.frame _ _ _ hc fun j hj => List.getElem?_set_ne fun h => mL (by rw [h]; exact hj)))
  have hto2 := fun γ1 H1 => to76 (c := c) (n := n) (L := L) (γ1 := γ1) (H1 := H1) haL hbL hok76 hok
  have hcb : c.ok γ (H.set L1 (.loop .busy none fr 19 #[9] (asOf Try.f76 0) (bdOf Try.f76 0))) := c.frame _ _ _ hc fun j hj => List.getElem?_set_ne fun h => mL (by rw [h]; exact hj)
  have hba : (H.set L1 (.loop .busy none fr 19 #[9] (asOf Try.f76 0) (bdOf Try.f76 0)))[a]? = some (.cells [.yld L]) := by rw [List.getElem?_set_ne (Ne.symm haL)]; exact ha
  have hbb : (H.set L1 (.loop .busy none fr 19 #[9] (asOf Try.f76 0) (bdOf Try.f76 0)))[b]? = some (.cells [.sl false false (mC (Sp.stripC n))]) := by rw [List.getElem?_set_ne (Ne.symm hbL)]; exact hb
  have hbk : (H.set L1 (.loop .busy none fr 19 #[9] (asOf Try.f76 0) (bdOf Try.f76 0)))[k]? = some (.cells cs) := by rw [List.getElem?_set_ne (Ne.symm hmk'.2.2.2)]; exact hk
  have hbok : HOk (LPb H.length) (H.set L1 (.loop .busy none fr 19 #[9] (asOf Try.f76 0) (bdOf Try.f76 0))) := hok.set (b := .loop .busy none fr 19 #[9] (asOf Try.f76 0) (bdOf Try.f76 0)) hlp
  have hblen : (H.set L1 (.loop .busy none fr 19 #[9] (asOf Try.f76 0) (bdOf Try.f76 0))).length = H.length := List.length_set
  generalize H.set L1 (.loop .busy none fr 19 #[9] (asOf Try.f76 0) (bdOf Try.f76 0)) = Hb at hto hto2 hcb hba hbb hbk hbok hblen ⊢
  have hsl : (Sp.stripC n).length ≤ 1000 := by rw [Sp.stripC_len]; omega
  simp only [w76R0b, f2, f3, hbb, go_sem, Nat.reduceEqDiff, Nat.reduceAdd, Nat.reduceLT, Nat.reduceLeDiff, reduceIte, reduceCtorEq]
  refine CallK.pure (CallV.of_spec (Spec.lend (s49 false false false false D (Sp.stripC n) (by omega) (by rw [hDn]; exact hdom.1.2) hsl (by rw [hDn]; exact fun c hc => Sp.stripC_ok hc)) rfl ⟨vle_mI hbk (by simp) hDn.symm (by rw [htk]), ⟨mC_bnd, fun h => h, fun h => h, rfl⟩, trivial⟩)) ?_
  simp only [f2, hba, go_sem, Nat.reduceEqDiff, Nat.reduceAdd, Nat.reduceLT, Nat.reduceLeDiff, reduceIte, reduceCtorEq]
  have fin : ∀ (γ1 : c.Γ) (H1 : AHeap) (e : Ex) (g : Bool), e = (if g then .norm else .ret) → c.To H.length γ Hb γ1 H1 → (if Sp.possP D (Sp.stripC n) then c.go (c.val γ) D else true) = g → (c.val γ1, !g) = (if Sp.possP D (Sp.stripC n) then (c.upd (c.val γ) D, !c.go (c.val γ) D) else (c.val γ, false)) → (g = true → c.live γ1) →
      ([] : List Nat) = [] ∧ H1[L1]? = some (Blk.loop .busy none fr 19 #[9] (asOf Try.f76 0) (bdOf Try.f76 0)) ∧ ∃ ρ H3, Wk H.length [] ρ [] (H1.set L1 (.loop (if (exJump e).isNone = true then .ready else .done) (exJump e) fr 19 #[9] (asOf Try.f76 0) (bdOf Try.f76 0))) [] H3 ∧
        B (exJump e).isNone = B ((cl76 c n L a b L1 fr).go ((cl76 c n L a b L1 fr).val (γ, false)) D) ∧ ∃ γ', (cl76 c n L a b L1 fr).val γ' = (cl76 c n L a b L1 fr).upd ((cl76 c n L a b L1 fr).val (γ, false)) D ∧
          ((cl76 c n L a b L1 fr).go ((cl76 c n L a b L1 fr).val (γ, false)) D = true → (cl76 c n L a b L1 fr).live γ') ∧ (cl76 c n L a b L1 fr).To H.length (γ, false) H γ' H3 := by
    intro γ1 H1 e g he h1 h2 h3 h4
    obtain ⟨k1, k2⟩ := hto2 γ1 H1 h1 (!g)
    have hgo : (cl76 c n L a b L1 fr).go ((cl76 c n L a b L1 fr).val (γ, false)) D = g := h2
    rw [hgo]
    refine ⟨rfl, k1, ?_⟩
    cases g with
    | true =>
      subst he
      exact ⟨idρ _, _, Wk.ok (fr' := []) (ms := []) (k2.hok _ hok) (fun _ _ h => h) k2.len (fun _ h => by cases h) (fun _ h => by cases h), rfl, (γ1, false), h3, fun _ => ⟨h4 rfl, rfl⟩, k2⟩
    | false =>
      subst he
      exact ⟨idρ _, _, Wk.ok (fr' := []) (ms := []) (k2.hok _ hok) (fun _ _ h => h) k2.len (fun _ h => by cases h) (fun _ h => by cases h), rfl, (γ1, true), h3, (fun h => by cases h), k2⟩
  refine G.split (fun hp => ?_) fun hp => ?_
  · simp only [f2, hba, go_sem, Nat.reduceEqDiff, Nat.reduceAdd, Nat.reduceLT, Nat.reduceLeDiff, reduceIte, reduceCtorEq]
    refine CallK.by (Y γ Hb k lb cs D hcb hlive (by rw [hblen]; exact hbok) hmk'.1 hbk htk hDn hle (hdom.2 hp)) fun v H1 ⟨hv, γ1, hval, hlv, hto1⟩ => ?_
    subst hv
    rw [hblen] at hto1
    simp only [go_sem, Nat.reduceEqDiff, Nat.reduceAdd, Nat.reduceLT, Nat.reduceLeDiff, reduceIte, reduceCtorEq]
    refine IC.split (fun hg => ?_) fun hg => ?_
    · have hg : c.go (c.val γ) D = false := by simpa using hg
      simp only [go_sem, Nat.reduceEqDiff, Nat.reduceAdd, Nat.reduceLT, Nat.reduceLeDiff, reduceIte, reduceCtorEq]
      exact (fin γ1 H1 .ret false rfl hto1 (by rw [if_pos hp, hg]) (by rw [if_pos hp, hg, hval]) (fun h => by cases h)).2
    · have hg : c.go (c.val γ) D = true := by simpa using hg
      simp only [go_sem, Nat.reduceEqDiff, Nat.reduceAdd, Nat.reduceLT, Nat.reduceLeDiff, reduceIte, reduceCtorEq]
      exact (fin γ1 H1 .norm true rfl hto1 (by rw [if_pos hp, hg]) (by rw [if_pos hp, hg, hval]) fun _ => hlv hg).2
  · simp only [go_sem, Nat.reduceEqDiff, Nat.reduceAdd, Nat.reduceLT, Nat.reduceLeDiff, reduceIte, reduceCtorEq]
    exact (fin γ Hb .norm true rfl (.refl hcb) (by rw [hp]; rfl) (by rw [hp]; rfl) fun _ => hlive).2

set_option maxHeartbeats 1000000 in
theorem s76 (hn : n ≤ 8) (h1 : 1 ≤ n) {dom : c.σ → List Int → Prop} (Y : YOk Try.prog c L n dom) {γ : c.Γ} {H : AHeap} (hdom : AheadOk c.go c.upd dom (c.val γ) (foldL n)) (hlive : c.live γ) (hok : HOk (LPb H.length) H) (hc : c.ok γ H) (hL : L < H.length) :
    Abs.Spec Try.prog 76 [.yld L, .rp [I n]] H fun v H' => v = .tup [] ∧ ∃ γ', c.val γ' = (run c.go c.upd (c.val γ) (foldL n)).1 ∧ c.To H.length γ H γ' H' := by
  refine Abs.Spec.walk mixed fn76 nn76 t76 q76 nt76 (by simp) ?_
  simp only [w76, cells_yld, go_sem, Nat.reduceEqDiff, Nat.reduceAdd, Nat.reduceLT, Nat.reduceLeDiff, reduceIte, reduceCtorEq]
  refine CallK.pure (liftV (s50 n (by omega)) (by simp [bndL, AVal.bnd]) (by simp [AVal.bnd, mC_bnd]) _) ?_
  simp only [List.length_append, List.append_assoc, app_get, app_get0, app_set, app_set0, Nat.add_assoc, go_sem, Nat.reduceEqDiff, Nat.reduceAdd, Nat.reduceLT, Nat.reduceLeDiff, reduceIte, reduceCtorEq]
  refine CallK.pure (liftV (s64 n) (by simp [bndL, AVal.bnd]) (by simp [AVal.bnd, bndL]) _) ?_
  simp only [go_sem, Nat.reduceEqDiff, Nat.reduceAdd, Nat.reduceLT, Nat.reduceLeDiff, reduceIte, reduceCtorEq]
  have nm : ∀ j, H.length ≤ j → ¬ c.mine γ j := fun j hj hm => by have := c.lt γ H j hc hm; omega
  generalize hfr : ([_, _, _, _, _, _, _, _] : Fr) = fr
  have f2 : Fr.get fr 2 = ptr H.length 0 := by rw [← hfr]; rfl
  have f3 : Fr.get fr 3 = ptr (H.length + 1) 0 := by rw [← hfr]; rfl
  have f8 : Fr.get fr 8 = .fn (.func 74) [] [.rp [I n]] := by rw [← hfr]; rfl
  have hbnd : (fr.all fun q => q.2.bnd (H.length + 4)) = true := by rw [← hfr]; simp [AVal.bnd, bndL, mC_bnd]; omega
  clear hfr
  obtain ⟨H2, hH2⟩ : ∃ H2, H ++ [.cells [yld L], .cells [.sl false false (mC (Sp.stripC n))]] = H2 := ⟨_, rfl⟩
  have hl2 : H2.length = H.length + 2 := by rw [← hH2]; simp
  have ok2 : ∀ LP, HOk LP H → HOk LP H2 := fun LP h0 => by
    have k1 := h0.push (b := .cells [yld L]) (by simp [blkN, vid]; omega)
    have k2 := k1.push (b := .cells [.sl false false (mC (Sp.stripC n))]) (by simp [blkN, bndL, AVal.bnd, mC_bnd])
    rw [← hH2]; simpa using k2
  obtain ⟨H3, hH3⟩ : ∃ H3, H2 ++ [.defs, .loop .ready none fr 19 #[9] (asOf Try.f76 0) (bdOf Try.f76 0)] = H3 := ⟨_, rfl⟩
  have hl3 : H3.length = H.length + 4 := by rw [← hH3, List.length_append, hl2]; rfl
  have e3 : ∀ j, j < H.length → H3[j]? = H[j]? := fun j hj => by
    rw [← hH3, List.getElem?_append_left (by omega), ← hH2, List.getElem?_append_left hj]
  have ea : H3[H.length]? = some (.cells [yld L]) := by rw [← hH3, List.getElem?_append_left (by omega), ← hH2]; simp
  have eb : H3[H.length + 1]? = some (.cells [.sl false false (mC (Sp.stripC n))]) := by rw [← hH3, List.getElem?_append_left (by omega), ← hH2]; simp
  have em : H3[H.length + 2]? = some .defs := by rw [← hH3, ← hl2, app_get0]; rfl
  have eL : H3[H.length + 3]? = some (.loop .ready none fr 19 #[9] (asOf Try.f76 0) (bdOf Try.f76 0)) := by rw [← hH3, show H.length + 3 = H2.length + 1 by omega, app_get]; rfl
  have ok3 : ∀ LP, HOk LP H → HOk (fun i fr => LP i fr ∨ i = H.length + 3) H3 := fun LP h0 => by
    have := (ok2 LP h0).begun (st := .ready) (pend := none) (fr := fr) (n := 19) (ps := #[9]) (ac := asOf Try.f76 0) (bd := bdOf Try.f76 0)
    rw [hH3, hl2] at this; exact this
  have okb : HOk (LPb H3.length) H3 := fun i b hi => by
    have h0 := ok3 _ hok i b hi
    cases b with
    | loop st pend fr' n' ps ac bd =>
      rcases h0 with h0 | h0
      · exact h0.mono (by omega)
      · subst h0
        rw [eL] at hi
        cases hi
        exact ⟨by omega, by rw [hl3]; exact hbnd⟩
    | _ => exact h0
  have hcl : (cl76 c n L H.length (H.length + 1) (H.length + 3) fr).ok (γ, false) H3 := ⟨c.frame γ H H3 hc fun j hj => e3 j (c.lt γ H j hc hj), ea, eb, eL, nm _ (by omega), nm _ (by omega), nm _ (by omega)⟩
  rw [hH2]
  refine W_range rfl f8 ?_
  rw [hH3, hl2]
  refine (s74 (c := cl76 c n L H.length (H.length + 1) (H.length + 3) fr) hn h1 (y76 hn h1 (by omega) (by omega) (by omega) f2 f3 Y) (γ := (γ, false)) (comes76 hdom) ⟨hlive, rfl⟩ okb hcl (by omega)).mono ?_
  rintro v H' ⟨_, ⟨γ', st⟩, hval, hto⟩
  have hL' := hto.ok.2.2.2.1
  have hmm : ¬ c.mine γ' (H.length + 2) := fun hm => by
    rcases hto.own (H.length + 2) (.inl hm) with (h | h | h | h) | h
    · exact nm _ (by omega) h
    · omega
    · omega
    · omega
    · omega
  have hm' : H'[H.length + 2]? = some .defs := by
    rw [hto.kept (H.length + 2) (by omega) (fun h => by rcases h with h | h | h | h <;> first | exact nm _ (by omega) h | omega)]; exact em
  have hlen := hto.len
  have hfin : c.To H.length γ H γ' ((H'.set (H.length + 3) .dead).set (H.length + 2) .dead) := by
    refine ⟨c.frame γ' H' _ hto.ok.1 fun j hj => ?_, fun LP h0 => ((hto.hok _ (ok3 LP h0)).ended).set (b := .dead) trivial, by simp; omega, fun j hj hm => ?_, fun j hj => ?_⟩
    · rw [List.getElem?_set_ne (fun h => hmm (by rw [h]; exact hj)), List.getElem?_set_ne (fun h => hto.ok.2.2.2.2.2.2 (by rw [h]; exact hj))]
    · rw [List.getElem?_set_ne (by omega), List.getElem?_set_ne (by omega), hto.kept j (by omega) (fun h => by rcases h with h | h | h | h <;> first | exact hm h | omega)]
      exact e3 j hj
    · rcases hto.own j (.inl hj) with (h | h | h | h) | h
      · exact .inl h
      · right; omega
      · right; omega
      · right; omega
      · right; omega
  have hrun := run_filter (go := c.go) (upd := c.upd) (P := fun D => Sp.possP D (Sp.stripC n)) (pilesA n) (c.val γ)
  have hval1 : c.val γ' = (run c.go c.upd (c.val γ) (foldL n)).1 := by
    have h0 : (c.val γ', st) = (run (cl76 c n L H.length (H.length + 1) (H.length + 3) fr).go (cl76 c n L H.length (H.length + 1) (H.length + 3) fr).upd (c.val γ, false) (pilesA n)).1 := hval
    rw [show run (cl76 c n L H.length (H.length + 1) (H.length + 3) fr).go (cl76 c n L H.length (H.length + 1) (H.length + 3) fr).upd (c.val γ, false) (pilesA n) = _ from hrun] at h0
    exact congrArg Prod.fst h0
  have hend : ∀ e : Ex, (e = .norm ∨ e = .ret) → retA H.length r76 (fun v H' => v = tup [] ∧ ∃ γ', c.val γ' = (run c.go c.upd (c.val γ) (foldL n)).1 ∧ c.To H.length γ H γ' H') e fr (H'.set (H.length + 3) .dead) [H.length + 2] := fun e he =>
    leafNM0 (LP := LPb H.length) (by rw [List.getElem?_set_ne (by omega)]; exact hm') (hfin.hok _ hok) (fun _ _ h => h) (by simp; omega) ⟨rfl, γ', hval1, hfin⟩ he
  cases st with
  | false =>
    refine ⟨.ready, none, hL', (fun h => by cases h), ?_⟩
    show KQ _ _ .norm _ _ _ _
    simp only [go_sem, Nat.reduceEqDiff, Nat.reduceAdd, Nat.reduceLT, Nat.reduceLeDiff, reduceIte, reduceCtorEq]
    exact hend .norm (.inl rfl)
  | true =>
    refine ⟨.done, some .ret, hL', (fun h => by cases h), ?_⟩
    show KQ _ _ .ret _ _ _ _
    simp only [go_sem, Nat.reduceEqDiff, Nat.reduceAdd, Nat.reduceLT, Nat.reduceLeDiff, reduceIte, reduceCtorEq]
    exact hend .ret (.inr rfl)
end
end Go.Proofs.Ythdjloegibenoaa
