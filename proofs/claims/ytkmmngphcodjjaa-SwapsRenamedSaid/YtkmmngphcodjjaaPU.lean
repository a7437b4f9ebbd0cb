/- Swaps, plain: collectors renamed. -/
import Derived.Test.YtkmmngphcodjjaaBV
namespace Go.Abs.Sp
open AVal

/-- w' is w with other names. -/
structure Ren (w w' : List (List Int)) (σ : Nat → Nat) : Prop where
  len : w'.length = w.length
  rng : ∀ i, i < w.length → σ i < w.length
  inj : ∀ i j, i < w.length → j < w.length → σ i = σ j → i = j
  row : ∀ i, i < w.length → w'.getD (σ i) [] = (w.getD i []).map fun c => (σ c.toNat : Int)
def RelR (n : Nat) (σ : Nat → Nat) (R R' : List Int) : Prop := ∀ i, i < n → R'.getD (σ i) 0 = R.getD i 0

theorem idx_map_p {α β : Type} {f : α → β} {p : β → Bool} : ∀ l : List α, idx p (l.map f) = idx (fun x => p (f x)) l
  | [] => rfl
  | x :: l => by rw [List.map_cons, idx, idx, idx_map_p l]
theorem idx_same {α : Type} {p q : α → Bool} : ∀ {l : List α}, (∀ x ∈ l, p x = q x) → idx p l = idx q l
  | [], _ => rfl
  | x :: l, h => by rw [idx, idx, h x (by simp), idx_same fun y hy => h y (by simp [hy])]

section
variable {w w' : List (List Int)} {σ : Nat → Nat}
theorem Ren.alive (h : Ren w w' σ) {R R' : List Int} (hR : RelR w.length σ R R') {c : Nat} (hc : c < w.length) : alive R' (σ c : Nat) = alive R (c : Nat) := by
  unfold Sp.alive
  rw [Int.toNat_natCast, Int.toNat_natCast, hR c hc]
theorem Ren.best (h : Ren w w' σ) (g : Good w) {R R' : List Int} (hR : RelR w.length σ R R') (ha : Some1 w R) {i : Nat} (hi : i < w.length) : best w' R' (σ i) = (σ (best w R i).toNat : Nat) := by
  unfold Sp.best
  have hm : w.getD i [] ∈ w := getD_mem hi
  have e : idx (Sp.alive R') (w'.getD (σ i) []) = idx (Sp.alive R) (w.getD i []) := by
    rw [h.row i hi, idx_map_p]
    refine idx_same fun c hc => ?_
    have := g.rng _ hm c hc
    rw [h.alive hR (c := c.toNat) (by omega), Int.toNat_of_nonneg this.1]
  rw [e, h.row i hi]
  obtain ⟨j, hj, hja⟩ := ha
  have h0 : 0 ≤ idx (Sp.alive R) (w.getD i []) := idx_pos ⟨_, g.cov _ hm j hj, hja⟩
  have h1 := (idx_lt (Sp.alive R) (w.getD i [])).2
  generalize w.getD i [] = row at *
  have hk : (idx (Sp.alive R) row).toNat < row.length := by omega
  rw [List.getD_eq_getElem?_getD, List.getElem?_map, List.getD_eq_getElem?_getD, List.getElem?_eq_getElem hk]; rfl
theorem Ren.chase (h : Ren w w' σ) (g : Good w) {R R' : List Int} (hR : RelR w.length σ R R') (ha : Some1 w R) {i : Nat} (hi : i < w.length) : ∀ (k a : Nat), a < w.length → Sp.chase (Sp.best w' R') (σ i : Nat) k (σ a : Nat) = (σ (Sp.chase (Sp.best w R) (i : Nat) k (a : Nat)).toNat : Nat) ∧ 0 ≤ Sp.chase (Sp.best w R) (i : Nat) k (a : Nat) ∧ Sp.chase (Sp.best w R) (i : Nat) k (a : Nat) < w.length
  | 0, a, hal => by simp [Sp.chase]; exact hal
  | k + 1, a, hal => by
    rw [Sp.chase, Sp.chase]
    by_cases hai : a = i
    · subst hai; simp; exact hal
    · have h1 : ¬ (a : Int) = (i : Int) := by omega
      have h2 : ¬ ((σ a : Nat) : Int) = ((σ i : Nat) : Int) := fun e => hai (h.inj a i hal hi (by omega))
      have hb := best_spec g ha hal
      rw [if_neg h1, if_neg h2, Int.toNat_natCast, Int.toNat_natCast, h.best g hR ha hal]
      have := Ren.chase h g hR ha hi k (Sp.best w R a).toNat (by omega)
      rw [Int.toNat_of_nonneg hb.1] at this
      exact this
theorem Ren.leaves (h : Ren w w' σ) (g : Good w) {R R' : List Int} (hR : RelR w.length σ R R') {i : Nat} (hi : i < w.length) : Sp.leaves w' R' (σ i) = Sp.leaves w R i := by
  unfold Sp.leaves
  rw [h.alive hR hi]
  cases ha : Sp.alive R (i : Nat) with
  | false => rfl
  | true =>
    have hs : Some1 w R := ⟨i, hi, ha⟩
    have hb := best_spec g hs hi
    have hc := h.chase g hR hs hi w.length (Sp.best w R i).toNat (by omega)
    rw [Int.toNat_of_nonneg hb.1] at hc
    rw [h.best g hR hs hi, h.len, hc.1, Bool.true_and, Bool.true_and, Bool.eq_iff_iff, beq_iff_eq, beq_iff_eq]
    constructor
    · intro e
      have := h.inj _ i (by omega) hi (show σ (Sp.chase (Sp.best w R) (i : Nat) w.length (Sp.best w R i)).toNat = σ i by omega)
      omega
    · intro e; rw [e, Int.toNat_natCast]
/-- The renamed one at its name. -/
theorem Ren.onto (h : Ren w w' σ) {j : Nat} (hj : j < w.length) : ∃ i, i < w.length ∧ σ i = j := by
  obtain ⟨i, hi, _, e⟩ := onto_of (n := w.length) (f := σ) (P := fun _ => True) (fun i hi _ => ⟨h.rng i hi, trivial⟩) (fun a b ha hb _ _ e => h.inj a b ha hb e) hj trivial
  exact ⟨i, hi, e⟩
theorem Ren.st (h : Ren w w' σ) (g : Good w) : ∀ k, RelR w.length σ (Sp.st w k).2 (Sp.st w' k).2
  | 0 => fun i hi => by
    show (List.replicate w'.length 0).getD (σ i) 0 = (List.replicate w.length 0).getD i 0
    rw [zero_get, zero_get]
  | k + 1 => fun i hi => by
    have ih := Ren.st h g k
    show (stepR w' (Sp.st w' k).2 (k + 1)).getD (σ i) 0 = (stepR w (Sp.st w k).2 (k + 1)).getD i 0
    rw [stepR_get (by rw [h.len]; exact h.rng i hi), stepR_get hi, h.leaves g ih hi, ih i hi]
theorem Ren.goes (h : Ren w w' σ) (g : Good w) (g' : Good w') {i : Nat} (hi : i < w.length) : (fin w').1.getD (σ i) 0 = (σ ((fin w).1.getD i 0).toNat : Nat) := by
  obtain ⟨a⟩ := round_of g hi
  have hl : Sp.leaves w' (Sp.st w' a.k).2 (σ i) = true := by rw [h.leaves g (h.st g a.k) hi]; exact a.go.1
  obtain ⟨hk', hg'⟩ := goes_of g' (by rw [h.len]; exact h.rng i hi) hl
  rw [(goes_fin hk' hg').2, h.best g (h.st g a.k) ⟨i, hi, leaves_iff.1 a.go.1 |>.1⟩ hi, a.bt, a.d]
end
end Go.Abs.Sp
namespace Go.Proofs.Ytkmmngphcodjjaa
open Go.Abs AVal
open Sp
theorem strong_iff {w : List (List Int)} {d : List Int} {k : Nat} {o : List Int} (hn : w.length ≤ 6) (hk : k < 2 ^ w.length) : blkP w d k true o = true ↔ (∀ j, j < w.length → outS (k : Nat) j = false → pos w j (o.getD j 0) < pos w j (d.getD j 0)) ∧ ∃ i, i < w.length ∧ outS (k : Nat) i = false := by
  have hp := two_pow64 w.length hn
  rw [blk_ok hn ⟨by omega, by omega⟩ fun j h1 h2 => small_bits w.length (by omega) k hk j h2 h1]
  simp only [okFrom, someFrom, Bool.false_or, Bool.not_true, Bool.and_false, Bool.or_false, Nat.not_lt_zero, decide_false, Bool.not_false, Bool.true_and, Bool.and_eq_true, List.all_eq_true, List.any_eq_true, List.mem_range, Bool.or_eq_true, decide_eq_true_eq, Bool.not_eq_true']
  constructor
  · rintro ⟨h1, i, hi, h2, h3⟩
    exact ⟨fun j hj ho => (h1 j hj).resolve_left (by rw [ho]; simp), i, hi, h2⟩
  · rintro ⟨h1, i, hi, h2⟩
    refine ⟨fun j hj => ?_, i, hi, h2, h1 i hi h2⟩
    cases ho : outS (k : Nat) j with
    | true => exact .inl rfl
    | false => exact .inr (h1 j hj ho)
/-- Some who all do better among themselves. -/
def Worse (w : List (List Int)) (d : List Int) : Prop := ∃ (S : Nat → Bool) (f : Nat → Nat), (∃ i, i < w.length ∧ S i = true) ∧ (∀ i, i < w.length → S i = true → f i < w.length ∧ S (f i) = true ∧ pos w i (f i : Nat) < pos w i (d.getD i 0)) ∧ ∀ i j, i < w.length → j < w.length → S i = true → S j = true → f i = f j → i = j
theorem core_iff {w : List (List Int)} (hv : Sp.valid w = true) {d : List Int} (hd : Sp.isOrder d w.length = true) : coreP w d = true ↔ ¬ Worse w d := by
  have g := Sp.valid_good hv
  have n6 := g.n6
  have hp := two_pow64 w.length n6
  have e : coreP w d = ((blockG w d true 1 (2 ^ w.length - 1)).2 == 4) := by rw [coreP, blockA, hv, hd]; rfl
  rw [e]
  constructor
  · rintro h ⟨S, f, ⟨i, hi, hSi⟩, hf, hinj⟩
    obtain ⟨k, hk64, hbits⟩ := set_of fun j => decide (j < w.length) && S j
    have hks : isSet (k : Int) := ⟨by omega, by omega⟩
    have out : ∀ j, j < w.length → (outS (k : Int) j = false ↔ S j = true) := fun j hj => by
      rw [outS, bit_zero hks (show j < 6 by omega), hbits j (by omega)]
      simp [hj]
    have hkn : k < 2 ^ w.length := small_dec w.length (by omega) k hk64 fun j hj hjn => by rw [hbits j hj, decide_eq_false (by omega)]; rfl
    have hk1 : 1 ≤ k := by
      refine Nat.pos_of_ne_zero fun h0 => ?_
      have := hbits i (by omega)
      rw [h0, show ((0 : Nat) : Int) = 0 from rfl, has0 i (by omega), decide_eq_true hi, hSi] at this
      cases this
    obtain ⟨o, ho⟩ : ∃ o, o = (List.range w.length).map fun j => if S j = true then ((f j : Nat) : Int) else 0 := ⟨_, rfl⟩
    have og : ∀ j, j < w.length → o.getD j 0 = if S j = true then ((f j : Nat) : Int) else 0 := fun j hj => by
      rw [ho, List.getD_eq_getElem?_getD, List.getElem?_map, List.getElem?_range hj]; rfl
    have hmem : o ∈ comps w.length k w.length 0 k [] := by
      have := comps_mem n6 (set := (k : Int)) (o := o) (by rw [ho]; simp) (fun j hj hjo => ?_) (fun a b hab hb hao hbo e => ?_) w.length 0 k (by omega) hks fun j _ hj hjo => ?_
      · rwa [List.take_zero] at this
      · rw [og j hj, if_neg]
        intro h1
        rw [(out j hj).2 h1] at hjo; cases hjo
      · have h1 := (out a (by omega)).1 hao
        have h2 := (out b hb).1 hbo
        rw [og a (by omega), og b hb, if_pos h1, if_pos h2] at e
        have := hinj a b (by omega) hb h1 h2 (by omega)
        omega
      · have h1 := (out j hj).1 hjo
        obtain ⟨f1, f2, _⟩ := hf j hj h1
        refine ⟨f j, f1, by rw [og j hj, if_pos h1], ?_⟩
        rw [hbits _ (by omega), decide_eq_true f1, f2]; rfl
    have hb : blkP w d k true o = true := by
      rw [strong_iff n6 hkn]
      refine ⟨fun j hj hjo => ?_, i, hi, (out i hi).2 hSi⟩
      have h1 := (out j hj).1 hjo
      rw [og j hj, if_pos h1]
      exact (hf j hj h1).2.2
    obtain ⟨s, _, _, es⟩ := blockG_hit (w := w) (d := d) (st := true) (2 ^ w.length - 1) 1 k hk1 (by omega) (by rw [blocksP, List.any_eq_true]; exact ⟨o, hmem, hb⟩)
    rw [es] at h
    simp at h
  · intro h
    rw [blockG_free, beq_self_eq_true]
    intro k hk1 hk2
    rw [blocksP, List.any_eq_false]
    intro o ho hb
    have hks : isSet (k : Int) := ⟨by omega, by omega⟩
    rw [strong_iff n6 (by omega)] at hb
    obtain ⟨hall, i, hi, hio⟩ := hb
    obtain ⟨-, -, h3, h4⟩ := mem_comps n6 w.length 0 k [] (by omega) hks rfl o ho
    refine h ⟨fun j => !outS (k : Nat) j, fun j => (o.getD j 0).toNat, ⟨i, hi, by simp [hio]⟩, fun j hj hSj => ?_, fun a b ha hb hSa hSb e => ?_⟩
    · have hjo : outS (k : Nat) j = false := by simpa using hSj
      obtain ⟨c, hc, ec, hcs⟩ := h3 j (by omega) hj hjo
      have := hall j hj hjo
      rw [ec] at this
      dsimp only
      rw [ec, Int.toNat_natCast]
      refine ⟨hc, ?_, this⟩
      rw [outS, bit_zero hks (by omega), hcs]; rfl
    · have hao : outS (k : Nat) a = false := by simpa using hSa
      have hbo : outS (k : Nat) b = false := by simpa using hSb
      obtain ⟨c, hc, ec, _⟩ := h3 a (by omega) ha hao
      obtain ⟨c', hc', ec', _⟩ := h3 b (by omega) hb hbo
      dsimp only at e
      rw [ec, ec', Int.toNat_natCast, Int.toNat_natCast] at e
      refine Classical.byContradiction fun hab => ?_
      rcases Nat.lt_or_gt_of_ne hab with hlt | hlt
      · exact h4 a b (by omega) hlt hb hao hbo (by rw [ec, ec', e])
      · exact h4 b a (by omega) hlt ha hbo hao (by rw [ec, ec', e])
/-- A deal with other names. -/
def RelD (n : Nat) (σ : Nat → Nat) (d d' : List Int) : Prop := ∀ i, i < n → d'.getD (σ i) 0 = (σ (d.getD i 0).toNat : Nat)
theorem ren_pos {w w' : List (List Int)} {σ : Nat → Nat} (h : Ren w w' σ) (g : Good w) {i c : Nat} (hi : i < w.length) (hc : c < w.length) : pos w' (σ i) (σ c : Nat) = pos w i (c : Nat) := by
  have hm : w.getD i [] ∈ w := getD_mem hi
  rw [pos, pos, h.row i hi, idx_map_p]
  refine idx_same fun x hx => ?_
  have hr := g.rng _ hm x hx
  rw [Bool.eq_iff_iff, beq_iff_eq, beq_iff_eq]
  constructor
  · intro e
    have := h.inj x.toNat c (by omega) hc (by omega)
    omega
  · rintro rfl; rw [Int.toNat_natCast]
theorem ren_worse {w w' : List (List Int)} {σ : Nat → Nat} (h : Ren w w' σ) (g : Good w) {d d' : List Int} (hd : RelD w.length σ d d') (hdr : ∀ i, i < w.length → 0 ≤ d.getD i 0 ∧ d.getD i 0 < w.length) : Worse w d ↔ Worse w' d' := by
  have hon : ∃ τ : Nat → Nat, ∀ j, j < w.length → τ j < w.length ∧ σ (τ j) = j := ⟨fun j => if hj : j < w.length then (h.onto hj).choose else 0, fun j hj => by
    simp only [hj, dif_pos]; exact (h.onto hj).choose_spec⟩
  obtain ⟨τ, hτ⟩ := hon
  have hτσ : ∀ i, i < w.length → τ (σ i) = i := fun i hi => h.inj _ _ (hτ _ (h.rng i hi)).1 hi (hτ _ (h.rng i hi)).2
  have hdd : ∀ i, i < w.length → ∃ c : Nat, c < w.length ∧ d.getD i 0 = c ∧ d'.getD (σ i) 0 = (σ c : Nat) := fun i hi => by
    have := hdr i hi
    exact ⟨(d.getD i 0).toNat, by omega, by omega, hd i hi⟩
  constructor
  · rintro ⟨S, f, ⟨i, hi, hSi⟩, hf, hinj⟩
    refine ⟨fun j => S (τ j), fun j => σ (f (τ j)), ⟨σ i, by rw [h.len]; exact h.rng i hi, by dsimp only; rw [hτσ i hi]; exact hSi⟩, fun j hj hSj => ?_, fun a b ha hb hSa hSb e => ?_⟩
    · rw [h.len] at hj ⊢
      obtain ⟨t1, t2⟩ := hτ j hj
      obtain ⟨f1, f2, f3⟩ := hf (τ j) t1 hSj
      obtain ⟨c, hc, ec, ec'⟩ := hdd (τ j) t1
      refine ⟨h.rng _ f1, by dsimp only; rw [hτσ _ f1]; exact f2, ?_⟩
      rw [t2] at ec'
      rw [ec'] 
      have e1 := ren_pos h g t1 f1
      have e2 := ren_pos h g t1 hc
      rw [t2] at e1 e2
      rw [ec] at f3
      dsimp only
      omega
    · rw [h.len] at ha hb
      have := h.inj _ _ (hf _ (hτ a ha).1 hSa).1 (hf _ (hτ b hb).1 hSb).1 e
      have := hinj _ _ (hτ a ha).1 (hτ b hb).1 hSa hSb this
      rw [← (hτ a ha).2, ← (hτ b hb).2, this]
  · rintro ⟨S, f, ⟨i, hi, hSi⟩, hf, hinj⟩
    rw [h.len] at hi
    refine ⟨fun j => S (σ j), fun j => τ (f (σ j)), ⟨τ i, (hτ i hi).1, by dsimp only; rw [(hτ i hi).2]; exact hSi⟩, fun j hj hSj => ?_, fun a b ha hb hSa hSb e => ?_⟩
    · obtain ⟨f1, f2, f3⟩ := hf (σ j) (by rw [h.len]; exact h.rng j hj) hSj
      rw [h.len] at f1
      obtain ⟨c, hc, ec, ec'⟩ := hdd j hj
      obtain ⟨t1, t2⟩ := hτ _ f1
      refine ⟨t1, by dsimp only; rw [t2]; exact f2, ?_⟩
      rw [ec'] at f3
      have e1 := ren_pos h g hj t1
      have e2 := ren_pos h g hj hc
      rw [t2] at e1
      rw [ec]
      dsimp only
      omega
    · have ha' : σ a < w'.length := by rw [h.len]; exact h.rng a ha
      have hb' : σ b < w'.length := by rw [h.len]; exact h.rng b hb
      have fa := (hf _ ha' hSa).1
      have fb := (hf _ hb' hSb).1
      rw [h.len] at fa fb
      dsimp only at e
      have e2 : f (σ a) = f (σ b) := by rw [← (hτ _ fa).2, ← (hτ _ fb).2, e]
      exact h.inj _ _ ha hb (hinj _ _ ha' hb' hSa hSb e2)
theorem order_of {n : Nat} (hn : n ≤ 6) {D : List Int} (hl : D.length = n) (hr : ∀ x ∈ D, 0 ≤ x ∧ x < n) (hd : D.Nodup) : Sp.isOrder D n = true := by
  rw [← all_eq (by omega), Sp.all, if_pos (allGo_of hn D 0 set0 hr hd fun x hx => has0 _ (by have := hr x hx; omega)), hl]; simp
theorem order_inj {n : Nat} (hn : n ≤ 6) {D : List Int} (h : Sp.isOrder D n = true) : D.length = n ∧ (∀ i, i < n → ∃ c : Nat, c < n ∧ D.getD i 0 = c) ∧ ∀ i j, i < n → j < n → D.getD i 0 = D.getD j 0 → i = j := by
  obtain ⟨hl, hr, -⟩ := order_spec hn h
  have hnd : D.Nodup := by
    rw [← all_eq hn, Sp.all] at h
    split at h
    · rename_i hg; exact (allGo_spec hn D 0 set0 hg).1
    · cases h
  refine ⟨hl, fun i hi => ?_, fun i j hi hj e => ?_⟩
  · have := hr _ (getD_mem (d := 0) (show i < D.length by omega))
    exact ⟨(D.getD i 0).toNat, by omega, by omega⟩
  · have hi' : i < D.length := by omega
    have hj' : j < D.length := by omega
    rw [List.getD_eq_getElem?_getD, List.getD_eq_getElem?_getD, List.getElem?_eq_getElem hi', List.getElem?_eq_getElem hj', Option.getD_some, Option.getD_some] at e
    have hp := List.pairwise_iff_getElem.1 (List.nodup_iff_pairwise_ne.1 hnd)
    refine Classical.byContradiction fun hij => ?_
    rcases Nat.lt_or_gt_of_ne hij with hlt | hlt
    · exact hp i j hi' hj' hlt e
    · exact hp j i hj' hi' hlt e.symm
/-- The deal with other names: whose name it is has τ. -/
def renD (n : Nat) (σ τ : Nat → Nat) (d : List Int) : List Int := (List.range n).map fun j => ((σ (d.getD (τ j) 0).toNat : Nat) : Int)
theorem renD_get {n : Nat} {σ τ : Nat → Nat} {d : List Int} {j : Nat} (hj : j < n) : (renD n σ τ d).getD j 0 = (σ (d.getD (τ j) 0).toNat : Nat) := by
  rw [renD, List.getD_eq_getElem?_getD, List.getElem?_map, List.getElem?_range hj]; rfl
structure Bij (n : Nat) (σ τ : Nat → Nat) : Prop where
  a : ∀ i, i < n → σ i < n ∧ τ (σ i) = i
  b : ∀ j, j < n → τ j < n ∧ σ (τ j) = j
theorem Bij.symm {n : Nat} {σ τ : Nat → Nat} (h : Bij n σ τ) : Bij n τ σ := ⟨h.b, h.a⟩
theorem renD_order {n : Nat} (hn : n ≤ 6) {σ τ : Nat → Nat} (h : Bij n σ τ) {d : List Int} (hd : Sp.isOrder d n = true) : Sp.isOrder (renD n σ τ d) n = true := by
  obtain ⟨hl, hv, hi⟩ := order_inj hn hd
  refine order_of hn (by simp [renD]) (fun x hx => ?_) ?_
  · obtain ⟨j, hj, rfl⟩ := List.mem_map.1 hx
    have hj := List.mem_range.1 hj
    obtain ⟨c, hc, ec⟩ := hv _ (h.b j hj).1
    rw [ec, Int.toNat_natCast]
    have := (h.a c hc).1
    omega
  · rw [renD, List.nodup_iff_pairwise_ne, List.pairwise_map]
    refine List.pairwise_lt_range.imp_of_mem fun {a b} ha hb hab e => ?_
    have ha := List.mem_range.1 ha
    have hb := List.mem_range.1 hb
    obtain ⟨c, hc, ec⟩ := hv _ (h.b a ha).1
    obtain ⟨c', hc', ec'⟩ := hv _ (h.b b hb).1
    rw [ec, ec', Int.toNat_natCast, Int.toNat_natCast] at e
    have e2 : c = c' := by rw [← (h.a c hc).2, ← (h.a c' hc').2]; congr 1; omega
    have e3 := hi _ _ (h.b a ha).1 (h.b b hb).1 (by rw [ec, ec', e2])
    have : a = b := by rw [← (h.b a ha).2, ← (h.b b hb).2, e3]
    omega
theorem renD_back {n : Nat} (hn : n ≤ 6) {σ τ : Nat → Nat} (h : Bij n σ τ) {d : List Int} (hd : Sp.isOrder d n = true) : renD n τ σ (renD n σ τ d) = d := by
  obtain ⟨hl, hv, hi⟩ := order_inj hn hd
  refine List.ext_getElem (by simp [renD, hl]) fun i h1 h2 => ?_
  have hin : i < n := by omega
  have e := renD_get (n := n) (σ := τ) (τ := σ) (d := renD n σ τ d) hin
  obtain ⟨c, hc, ec⟩ := hv i hin
  rw [renD_get (h.a i hin).1, (h.a i hin).2, ec, Int.toNat_natCast, Int.toNat_natCast, (h.a c hc).2, ← ec, List.getD_eq_getElem?_getD, List.getD_eq_getElem?_getD, List.getElem?_eq_getElem h1, List.getElem?_eq_getElem h2] at e
  exact e
theorem Ren.bij {w w' : List (List Int)} {σ : Nat → Nat} (h : Ren w w' σ) : ∃ τ, Bij w.length σ τ := by
  refine ⟨fun j => if hj : j < w.length then (h.onto hj).choose else 0, fun i hi => ?_, fun j hj => by simp only [hj, dif_pos]; exact (h.onto hj).choose_spec⟩
  have hs := h.rng i hi
  refine ⟨hs, ?_⟩
  simp only [hs, dif_pos]
  exact h.inj _ _ (h.onto hs).choose_spec.1 hi (h.onto hs).choose_spec.2
theorem ren_coreP {w w' : List (List Int)} {σ τ : Nat → Nat} (h : Ren w w' σ) (hb : Bij w.length σ τ) (hv : Sp.valid w = true) (hv' : Sp.valid w' = true) {d : List Int} (hd : Sp.isOrder d w.length = true) : coreP w' (renD w.length σ τ d) = coreP w d := by
  have g := Sp.valid_good hv
  obtain ⟨hl, hvl, hi⟩ := order_inj g.n6 hd
  have ho : Sp.isOrder (renD w.length σ τ d) w'.length = true := by rw [h.len]; exact renD_order g.n6 hb hd
  rw [Bool.eq_iff_iff, core_iff hv' ho, core_iff hv hd]
  refine not_congr (ren_worse h g (fun i hi => ?_) fun i hi => ?_).symm
  · rw [renD_get (h.rng i hi), (hb.a i hi).2]
  · obtain ⟨c, hc, ec⟩ := hvl i hi; omega
theorem perm_nodup {α : Type} [DecidableEq α] {l l' : List α} (h1 : l.Nodup) (h2 : l'.Nodup) (h : ∀ a, a ∈ l ↔ a ∈ l') : l.Perm l' := by
  rw [List.perm_iff_count]
  intro a
  rw [h1.count, h2.count]
  by_cases ha : a ∈ l
  · rw [if_pos ha, if_pos ((h a).1 ha)]
  · rw [if_neg ha, if_neg fun hn => ha ((h a).2 hn)]
theorem deals_head {n : Nat} : ∀ (m : Nat) (b o : List Int), o ∈ dealsR n m b → o.take b.length = b
  | 0, b, o, h => by simp [dealsR] at h; subst h; exact List.take_length
  | m + 1, b, o, h => by
    simp only [dealsR, List.mem_flatMap, List.mem_range] at h
    obtain ⟨c, _, h⟩ := h
    split at h
    · cases h
    · have := deals_head m _ o h
      have h2 := congrArg (List.take b.length) this
      rw [List.take_take, List.length_append, List.length_singleton, Nat.min_eq_left (by omega), List.take_append_of_le_length (Nat.le_refl _), List.take_length] at h2
      exact h2
theorem deals_nd {n : Nat} : ∀ (m : Nat) (b : List Int), (dealsR n m b).Nodup
  | 0, b => by simp [dealsR]
  | m + 1, b => by
    rw [List.nodup_iff_pairwise_ne, dealsR, List.pairwise_flatMap]
    refine ⟨fun c _ => ?_, ?_⟩
    · split
      · exact .nil
      · exact List.nodup_iff_pairwise_ne.1 (deals_nd m _)
    · refine (List.pairwise_lt_range).imp fun {c d} hcd o ho p hp e => ?_
      subst e
      split at ho
      · cases ho
      · split at hp
        · cases hp
        · have h1 := deals_head m _ o ho
          have h2 := deals_head m _ o hp
          rw [List.length_append, List.length_singleton] at h1 h2
          rw [h1] at h2
          have := List.append_cancel_left h2
          simp at this; omega
theorem coreL_nd (w : List (List Int)) : (coreL w).Nodup := (deals_nd w.length []).filter _
theorem mem_coreL {w : List (List Int)} (h6 : w.length ≤ 6) {d : List Int} : d ∈ coreL w ↔ Sp.isOrder d w.length = true ∧ coreP w d = true := by
  rw [coreL, List.mem_filter]
  exact ⟨fun ⟨h1, h2⟩ => ⟨all_order h6 h1, h2⟩, fun ⟨h1, h2⟩ => ⟨order_mem h6 h1, h2⟩⟩
theorem core_ren {w w' : List (List Int)} {σ τ : Nat → Nat} (h : Ren w w' σ) (hb : Bij w.length σ τ) (hv : Sp.valid w = true) (hv' : Sp.valid w' = true) : (coreL w').length = (coreL w).length ∧ ∀ d ∈ coreL w, renD w.length σ τ d ∈ coreL w' := by
  have n6 := (Sp.valid_good hv).n6
  have n6' : w'.length ≤ 6 := by rw [h.len]; exact n6
  have hmem : ∀ d ∈ coreL w, renD w.length σ τ d ∈ coreL w' := fun d hd => by
    obtain ⟨h1, h2⟩ := (mem_coreL n6).1 hd
    exact (mem_coreL n6').2 ⟨by rw [h.len]; exact renD_order n6 hb h1, by rw [ren_coreP h hb hv hv' h1]; exact h2⟩
  refine ⟨?_, hmem⟩
  have hp : ((coreL w).map (renD w.length σ τ)).Perm (coreL w') := by
    refine perm_nodup ?_ (coreL_nd w') fun a => ?_
    · rw [List.nodup_iff_pairwise_ne, List.pairwise_map]
      refine (List.nodup_iff_pairwise_ne.1 (coreL_nd w)).imp_of_mem fun {x y} hx hy hxy e => hxy ?_
      rw [← renD_back n6 hb ((mem_coreL n6).1 hx).1, ← renD_back n6 hb ((mem_coreL n6).1 hy).1, e]
    · rw [List.mem_map]
      constructor
      · rintro ⟨d, hd, rfl⟩; exact hmem d hd
      · intro ha
        obtain ⟨h1, h2⟩ := (mem_coreL n6').1 ha
        rw [h.len] at h1
        have h3 := renD_order n6 hb.symm h1
        have h4 := renD_back n6 hb.symm h1
        refine ⟨renD w.length τ σ a, (mem_coreL n6).2 ⟨h3, ?_⟩, h4⟩
        rw [← ren_coreP h hb hv hv' h3, h4]; exact h2
  rw [← hp.length_eq, List.length_map]
end Go.Proofs.Ytkmmngphcodjjaa
