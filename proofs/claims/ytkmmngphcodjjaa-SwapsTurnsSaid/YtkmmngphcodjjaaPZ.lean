/- Trading in circles, plain: nobody does better with other wishes. -/
import Derived.Test.YtkmmngphcodjjaaPY
namespace Go.Abs.Sp

/-- Alike but for the wishes of one. -/
structure Alike (w w' : List (List Int)) (i : Nat) : Prop where
  len : w'.length = w.length
  row : ∀ j, j ≠ i → w'.getD j [] = w.getD j []

theorem Alike.symm {w w' : List (List Int)} {i : Nat} (h : Alike w w' i) : Alike w' w i := ⟨h.len.symm, fun j hj => (h.row j hj).symm⟩

theorem best_alike {w w' : List (List Int)} {i : Nat} (h : Alike w w' i) {R : List Int} {j : Nat} (hj : j ≠ i) : best w' R j = best w R j := by
  unfold best; rw [h.row j hj]

theorem leaves_alike {w w' : List (List Int)} {i : Nat} (g : Good w) (h : Alike w w' i) {R : List Int} {j : Nat} (hj : j < w.length) (hl : leaves w R j = true) (hi : leaves w R i = false) : leaves w' R j = true := by
  obtain ⟨ha, m, hm, e⟩ := leaves_iff.1 hl
  have key : ∀ l, leaves w R (itI (best w R) l j).toNat = true ∧ itI (best w' R) l j = itI (best w R) l j ∧ 0 ≤ itI (best w R) l j ∧ itI (best w R) l j < w.length := by
    intro l
    induction l with
    | zero => exact ⟨by simpa [itI] using hl, rfl, by simp [itI], by simp [itI]; omega⟩
    | succ l ih =>
      obtain ⟨h1, h2, h3, h4⟩ := ih
      have hne : (itI (best w R) l j).toNat ≠ i := fun e => by rw [e, hi] at h1; cases h1
      have hlt : (itI (best w R) l j).toNat < w.length := by omega
      rw [itI_succ, itI_succ, h2]
      have hb := best_spec g ⟨j, hj, ha⟩ hlt
      exact ⟨leaves_best g hlt h1, best_alike h hne, hb.1, hb.2.1⟩
  refine leaves_iff.2 ⟨ha, m, by rw [h.len]; exact hm, ?_⟩
  have e1 : itI (best w' R) m (best w' R j) = itI (best w' R) (m + 1) j := rfl
  rw [e1, (key (m + 1)).2.1]
  exact e

theorem not_leaves {w : List (List Int)} {i k m : Nat} (hi : i < w.length) (h : goes w i k) (hm : m < k) : leaves w (st w m).2 i = false := by
  cases hl : leaves w (st w m).2 i with
  | false => rfl
  | true =>
    have hz := h.2.1 (m + 1) (by omega)
    have e : (st w (m + 1)).2.getD i 0 = (stepR w (st w m).2 (m + 1)).getD i 0 := rfl
    rw [e, stepR_get hi, hl, if_pos rfl] at hz
    omega

theorem same_runs {w w' : List (List Int)} {i k k' : Nat} (g : Good w) (g' : Good w') (h : Alike w w' i) (hi : i < w.length) (hg : goes w i k) (hg' : goes w' i k') : ∀ m, m ≤ k → m ≤ k' → (st w' m).2 = (st w m).2
  | 0, _, _ => by simp [st, h.len]
  | m + 1, h1, h2 => by
    have ih := same_runs g g' h hi hg hg' m (by omega) (by omega)
    have n1 := not_leaves hi hg (show m < k by omega)
    have n2 := not_leaves (by rw [h.len]; exact hi) hg' (show m < k' by omega)
    show stepR w' (st w' m).2 (m + 1) = stepR w (st w m).2 (m + 1)
    rw [ih] at n2 ⊢
    unfold stepR
    rw [h.len]
    apply List.map_congr_left
    intro j hj
    have hj := List.mem_range.1 hj
    have : leaves w' (st w m).2 j = leaves w (st w m).2 j := by
      cases hl : leaves w (st w m).2 j with
      | true => exact leaves_alike g h hj hl n1
      | false =>
        cases hl' : leaves w' (st w m).2 j with
        | false => rfl
        | true => rw [leaves_alike g' h.symm (by rw [h.len]; exact hj) hl' n2] at hl; cases hl
    rw [this]

theorem idx_keep {p q : Int → Bool} : ∀ {xs : List Int}, (∀ x ∈ xs, q x = true → p x = true) → 0 ≤ idx p xs → q (xs.getD (idx p xs).toNat 0) = true → idx q xs = idx p xs
  | [], _, h, _ => by simp [idx] at h
  | y :: r, hm, h, hq => by
    by_cases hy : p y = true
    · have e : idx p (y :: r) = 0 := by unfold idx; rw [if_pos hy]
      rw [e] at hq ⊢
      have : q y = true := hq
      unfold idx; rw [if_pos this]
    · have e : idx p (y :: r) = if idx p r < 0 then -1 else idx p r + 1 := by
        conv => lhs; unfold idx
        rw [if_neg hy]
      have hqy : ¬ q y = true := fun hqy => hy (hm y (by simp) hqy)
      have e' : idx q (y :: r) = if idx q r < 0 then -1 else idx q r + 1 := by
        conv => lhs; unfold idx
        rw [if_neg hqy]
      rw [e] at h hq
      rw [e, e']
      split at h
      · omega
      · rename_i h2
        rw [if_neg h2] at hq
        have : (idx p r + 1).toNat = (idx p r).toNat + 1 := by omega
        rw [this, List.getD_cons_succ] at hq
        rw [idx_keep (fun x hx => hm x (by simp [hx])) (by omega) hq]

theorem best_keep {w : List (List Int)} (g : Good w) {R R2 : List Int} {j : Nat} (hj : j < w.length) (hs : Some1 w R) (hm : ∀ x : Nat, x < w.length → alive R2 x = true → alive R x = true) (ha : alive R2 (best w R j) = true) : best w R2 j = best w R j := by
  have hrow := getD_mem (d := ([] : List Int)) hj
  obtain ⟨x, hx, hxa⟩ := hs
  unfold best at ha ⊢
  rw [idx_keep (fun c hc hcq => ?_) (idx_pos ⟨_, g.cov _ hrow x hx, hxa⟩) ha]
  have hr := g.rng _ hrow c hc
  have := hm c.toNat (by omega)
  rw [Int.toNat_of_nonneg hr.1] at this
  exact this hcq

/-- Who does not leave stays. -/
theorem stays {w : List (List Int)} (g : Good w) {j p q : Nat} (hj : j < w.length) (ha : alive (st w p).2 j = true) (h : ∀ m, p ≤ m → m < q → leaves w (st w m).2 j = false) : alive (st w q).2 j = true := by
  obtain ⟨c⟩ := round_of g hj
  refine (alive_iff c.go q).2 ?_
  have h1 := (alive_iff c.go p).1 ha
  rcases Nat.lt_or_ge c.k q with hlt | hge
  · have := h c.k h1 hlt
    rw [c.go.1] at this; cases this
  · exact hge

theorem alive_back {w : List (List Int)} (g : Good w) {j p q : Nat} (hj : j < w.length) (hpq : p ≤ q) (h : alive (st w q).2 j = true) : alive (st w p).2 j = true := by
  obtain ⟨c⟩ := round_of g hj
  exact (alive_iff c.go p).2 (by have := (alive_iff c.go q).1 h; omega)

/-- **Nobody does better with other wishes than their own.** -/
theorem honest {w w' : List (List Int)} {i : Nat} (g : Good w) (g' : Good w') (h : Alike w w' i) (hi : i < w.length) : pos w i ((fin w).1.getD i 0) ≤ pos w i ((fin w').1.getD i 0) := by
  have hi' : i < w'.length := by rw [h.len]; exact hi
  obtain ⟨a⟩ := round_of g hi
  obtain ⟨b⟩ := round_of g' hi'
  have hbt : b.t < w.length := by have := b.ht; rw [h.len] at this; exact this
  rw [a.d, ← a.bt, b.d]
  refine best_pos g hi hbt ?_
  rcases Nat.lt_or_ge b.k a.k with hlt | hge
  · -- the circle of the lie waits
    have hsame := same_runs g g' h hi a.go b.go b.k (by omega) (Nat.le_refl _)
    have hsome : Some1 w (st w b.k).2 := ⟨i, hi, (alive_iff a.go b.k).2 (by omega)⟩
    have hsome' : Some1 w' (st w' b.k).2 := ⟨i, hi', (alive_iff b.go b.k).2 (Nat.le_refl _)⟩
    have key : ∀ (m : Nat) (x : Nat), x < w.length → alive (st w b.k).2 x = true → itI (best w' (st w' b.k).2) m x = i → ∀ q, b.k ≤ q → q < a.k → leaves w (st w q).2 x = false := by
      intro m
      induction m with
      | zero =>
        intro x hx _ e q _ hq2
        have : x = i := by simpa [itI, Int.natCast_inj] using e
        subst this
        exact not_leaves hi a.go hq2
      | succ m ih =>
        intro x hx hxa e q hq1 hq2
        by_cases hxi : x = i
        · subst hxi; exact not_leaves hi a.go hq2
        · have hn := best_spec g' hsome' (i := x) (by rw [h.len]; exact hx)
          rw [h.len] at hn
          obtain ⟨y, hy⟩ : ∃ y : Nat, best w' (st w' b.k).2 x = y := ⟨_, (Int.toNat_of_nonneg hn.1).symm⟩
          rw [hy] at hn
          have hyn : y < w.length := by omega
          have hya : alive (st w b.k).2 y = true := by rw [← hsame]; exact hn.2.2
          have e2 : itI (best w' (st w' b.k).2) m y = i := by rw [← hy]; exact e
          have hno := ih y hyn hya e2
          cases hl : leaves w (st w q).2 x with
          | false => rfl
          | true =>
            have hyq : alive (st w q).2 y = true := stays g hyn hya fun m h1 h2 => hno m h1 (by omega)
            have hb0 : best w (st w b.k).2 x = y := by rw [← hsame, ← best_alike h hxi]; exact hy
            have hb : best w (st w q).2 x = y := by
              rw [← hb0]
              refine best_keep g hx hsome (fun z hz hza => alive_back g hz hq1 hza) (by rw [hb0]; exact hyq)
            have := leaves_best g hx hl
            rw [hb, Int.toNat_natCast, hno q hq1 hq2] at this
            cases this
    obtain ⟨_, m, _, e⟩ := leaves_iff.1 b.go.1
    rw [b.bt] at e
    have hba : alive (st w b.k).2 b.t = true := by
      have := best_spec g' hsome' hi'
      rw [b.bt, hsame] at this
      exact this.2.2
    exact stays g hbt hba (key m b.t hbt hba e)
  · -- the lie's card is there when one leaves
    obtain ⟨c⟩ := round_of g' b.ht
    have hck : c.k = b.k := by have h1 := b.same; rw [c.r] at h1; omega
    have := (alive_iff c.go a.k).2 (by omega)
    rwa [same_runs g g' h hi a.go b.go a.k (Nat.le_refl _) hge] at this

/-! ### The lie -/
theorem getD_set {w : List (List Int)} {i j : Nat} {l : List Int} (hi : i < w.length) : (w.set i l).getD j [] = if i = j then l else w.getD j [] := by
  rw [List.getD_eq_getElem?_getD, List.getElem?_set]
  split
  · rfl
  · rw [List.getD_eq_getElem?_getD]

theorem alike_set {w : List (List Int)} {i : Nat} (l : List Int) (hi : i < w.length) : Alike w (w.set i l) i := ⟨by simp, fun j hj => by rw [getD_set hi, if_neg (Ne.symm hj)]⟩

theorem valid_set {w : List (List Int)} {i : Nat} {l : List Int} (h : valid w = true) (ho : isOrder l w.length = true) : valid (w.set i l) = true := by
  obtain ⟨h1, h2, h3⟩ := valid_iff.1 h
  refine valid_iff.2 ⟨by simpa using h1, by simpa using h2, fun x hx => ?_⟩
  rw [List.length_set]
  rcases List.mem_or_eq_of_mem_set hx with hx | rfl
  · exact h3 x hx
  · exact ho

theorem take_order {n : Nat} (hn : n ≤ 6) (l : List Int) : isOrder (l.take 9) n = isOrder l n := by
  by_cases hl : l.length ≤ 9
  · rw [List.take_of_length_le hl]
  · have h1 : ∀ xs : List Int, xs.length ≠ n → isOrder xs n = false := fun xs hx => by
      cases ho : isOrder xs n with
      | false => rfl
      | true => exact absurd (order_spec hn ho).1 hx
    rw [h1 _ (by simp; omega), h1 _ (by omega)]
end Go.Abs.Sp
