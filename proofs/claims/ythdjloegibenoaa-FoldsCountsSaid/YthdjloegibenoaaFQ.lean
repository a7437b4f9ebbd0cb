/- Small sets as numbers: bits of numbers below 256; orders of at most eight; where leaves are in a pile. -/
import Derived.Test.YthdjloegibenoaaFP
namespace Go.Abs.Sp

/-- A set of numbers below 8. -/
def isSet (m : Int) : Prop := 0 ≤ m ∧ m < 256
def has (m : Int) (j : Nat) : Bool := bitAt m j == 1

theorem allSets {p : Int → Prop} (h : ∀ k : Nat, k < 256 → p k) {m : Int} (hm : isSet m) : p m := by
  have := h m.toNat (by have := hm.1; have := hm.2; omega)
  rwa [Int.toNat_of_nonneg hm.1] at this

set_option maxRecDepth 100000 in
theorem or_dec : ∀ k : Nat, k < 256 → ∀ i : Nat, i < 8 → (0 ≤ orI k (shl1 i) ∧ orI k (shl1 i) < 256) ∧ ∀ j : Nat, j < 8 → has (orI k (shl1 i)) j = (has k j || decide (j = i)) := by decide +kernel
theorem or_set {m : Int} (hm : isSet m) {i : Nat} (hi : i < 8) : isSet (orI m (shl1 i)) := (allSets (p := fun m => ∀ i : Nat, i < 8 → (0 ≤ orI m (shl1 i) ∧ orI m (shl1 i) < 256) ∧ ∀ j : Nat, j < 8 → has (orI m (shl1 i)) j = (has m j || decide (j = i))) or_dec hm i hi).1
theorem has_or {m : Int} (hm : isSet m) {i : Nat} (hi : i < 8) {j : Nat} (hj : j < 8) : has (orI m (shl1 i)) j = (has m j || decide (j = i)) := (allSets (p := fun m => ∀ i : Nat, i < 8 → (0 ≤ orI m (shl1 i) ∧ orI m (shl1 i) < 256) ∧ ∀ j : Nat, j < 8 → has (orI m (shl1 i)) j = (has m j || decide (j = i))) or_dec hm i hi).2 j hj

set_option maxRecDepth 100000 in
theorem zero_dec : ∀ k : Nat, k < 256 → ((k : Int) = 0 ↔ ∀ j : Nat, j < 8 → has k j = false) := by decide +kernel
theorem set_zero {m : Int} (hm : isSet m) : m = 0 ↔ ∀ j : Nat, j < 8 → has m j = false := allSets (p := fun m => m = 0 ↔ ∀ j : Nat, j < 8 → has m j = false) zero_dec hm

theorem full_dec : ∀ n : Nat, n < 9 → isSet (IntKind.i64.wrap (shl1 n - 1)) ∧ ∀ j : Nat, j < 8 → has (IntKind.i64.wrap (shl1 n - 1)) j = decide (j < n) := by unfold isSet; decide +kernel
theorem bit_dec : ∀ k : Nat, k < 256 → ∀ j : Nat, j < 8 → (bitAt k j == 0) = !has k j := by decide +kernel
theorem bit_zero {m : Int} (hm : isSet m) {j : Nat} (hj : j < 8) : (bitAt m j == 0) = !has m j := allSets (p := fun m => ∀ j : Nat, j < 8 → (bitAt m j == 0) = !has m j) bit_dec hm j hj


def pc (m : Int) : Nat := (List.range 8).countP fun j => has m j

theorem pc_dec : ∀ k : Nat, k < 256 → ∀ i : Nat, i < 8 → pc (orI k (shl1 i)) = pc k + if has k i then 0 else 1 := by decide +kernel
theorem pc_or {m : Int} (hm : isSet m) {i : Nat} (hi : i < 8) : pc (orI m (shl1 i)) = pc m + if has m i then 0 else 1 := allSets (p := fun m => ∀ i : Nat, i < 8 → pc (orI m (shl1 i)) = pc m + if has m i then 0 else 1) pc_dec hm i hi
theorem pc_full_dec : ∀ n : Nat, n < 9 → pc (IntKind.i64.wrap (shl1 n - 1)) = n := by decide +kernel
theorem full_of_dec : ∀ k : Nat, k < 256 → ∀ n : Nat, n < 9 → (∀ j : Nat, j < 8 → has k j = true → j < n) → pc k = n → (k : Int) = IntKind.i64.wrap (shl1 n - 1) := by decide +kernel
theorem full_of {m : Int} (hm : isSet m) {n : Nat} (hn : n < 9) (h : ∀ j : Nat, j < 8 → has m j = true → j < n) (hp : pc m = n) : m = IntKind.i64.wrap (shl1 n - 1) :=
  allSets (p := fun m => ∀ n : Nat, n < 9 → (∀ j : Nat, j < 8 → has m j = true → j < n) → pc m = n → m = IntKind.i64.wrap (shl1 n - 1)) full_of_dec hm n hn h hp

theorem go_spec {n : Nat} (hn : n ≤ 8) : ∀ (l : List Int) (met : Int), isSet met → match isOrderGo n met l with
    | none => allGo n met l = false
    | some s => isSet s ∧ (∀ x ∈ l, 0 ≤ x ∧ x < n) ∧ (∀ j : Nat, j < 8 → has s j = (has met j || decide ((j : Int) ∈ l))) ∧ pc s ≤ pc met + l.length ∧ (allGo n met l = true ↔ pc s = pc met + l.length)
  | [], met, hm => by simp [isOrderGo, allGo, hm]
  | x :: l, met, hm => by
    unfold isOrderGo allGo
    by_cases h1 : x < 0
    · simp [h1]
    by_cases h2 : x ≥ n
    · simp [h1, h2]
    rw [if_neg h1, if_neg h2, if_neg h1, if_neg h2]
    obtain ⟨i, rfl⟩ : ∃ i : Nat, x = i := ⟨x.toNat, by omega⟩
    have hi : i < 8 := by omega
    have ih := go_spec hn l (orI met (shl1 i)) (or_set hm hi)
    have hpc := pc_or hm hi
    have hor := fun {j : Nat} (hj : j < 8) => has_or hm hi hj
    change match isOrderGo n (orI met (shl1 i)) l with
      | none => (if has met i = true then false else allGo n (orI met (shl1 i)) l) = false
      | some s => isSet s ∧ (∀ x ∈ (i : Int) :: l, 0 ≤ x ∧ x < n) ∧ (∀ j : Nat, j < 8 → has s j = (has met j || decide ((j : Int) ∈ (i : Int) :: l))) ∧ pc s ≤ pc met + ((i : Int) :: l).length ∧ ((if has met i = true then false else allGo n (orI met (shl1 i)) l) = true ↔ pc s = pc met + ((i : Int) :: l).length)
    cases hg : isOrderGo n (orI met (shl1 i)) l with
    | none =>
      rw [hg] at ih
      simp only at ih ⊢
      split
      · rfl
      · exact ih
    | some s =>
      rw [hg] at ih
      obtain ⟨g1, g2, g3, g4, g5⟩ := ih
      refine ⟨g1, fun y hy => ?_, fun j hj => ?_, ?_, ?_⟩
      · rcases List.mem_cons.1 hy with rfl | hy
        · omega
        · exact g2 y hy
      · rw [g3 j hj, hor hj, Bool.or_assoc]
        congr 1
        rw [← Bool.decide_or]
        congr 1
        simp only [List.mem_cons, Int.natCast_inj]
      · rw [List.length_cons]; split at hpc <;> omega
      · rw [List.length_cons]
        by_cases hh : has met i = true
        · rw [if_pos hh] at hpc ⊢
          constructor
          · intro h; cases h
          · intro h; omega
        · rw [if_neg hh] at hpc ⊢
          rw [g5]; constructor <;> intro h <;> omega

theorem set0 : isSet 0 := ⟨by decide, by decide⟩
theorem has0 : ∀ j : Nat, j < 8 → has 0 j = false := by decide +kernel
theorem pc0 : pc 0 = 0 := by decide +kernel

/-- The two questions are one. -/
theorem all_eq {n : Nat} (hn : n ≤ 8) (l : List Int) : all l n = isOrder l n := by
  have h := go_spec hn l 0 set0
  unfold all isOrder
  cases hg : isOrderGo n 0 l with
  | none =>
    rw [hg] at h
    simp only at h
    rw [h]; rfl
  | some s =>
    rw [hg] at h
    obtain ⟨g1, g2, g3, g4, g5⟩ := h
    rw [pc0] at g4 g5
    dsimp only
    by_cases hl : (l.length : Int) = n
    · have hl' : l.length = n := by omega
      rw [if_pos (show (((l.length : Int) == (n : Int)) = true) by simpa using hl)]
      have e1 : ((l.length : Int) == (n : Int)) = true := by simpa using hl
      rw [e1]
      have hbits : ∀ j : Nat, j < 8 → has s j = true → j < n := fun j hj hh => by
        rw [g3 j hj, has0 j hj, Bool.false_or, decide_eq_true_eq] at hh
        have := g2 _ hh; omega
      by_cases ha : allGo n 0 l = true
      · rw [if_pos ha]
        have := full_of g1 (by omega : n < 9) hbits (by have := g5.1 ha; omega)
        simp [this]
      · rw [if_neg ha]
        symm
        rw [beq_eq_false_iff_ne]
        rintro rfl
        exact ha (g5.2 (by rw [pc_full_dec n (by omega)]; omega))
    · have e1 : ((l.length : Int) == (n : Int)) = false := by simpa using hl
      rw [e1]
      simp

theorem order_spec {n : Nat} (hn : n ≤ 8) {l : List Int} (h : isOrder l n = true) : l.length = n ∧ (∀ x ∈ l, 0 ≤ x ∧ x < n) ∧ ∀ j : Nat, j < n → (j : Int) ∈ l := by
  have g := go_spec hn l 0 set0
  unfold isOrder at h
  cases hg : isOrderGo n 0 l with
  | none => rw [hg] at h; cases h
  | some s =>
    rw [hg] at h g
    obtain ⟨g1, g2, g3, -, -⟩ := g
    dsimp only at h
    split at h
    · rename_i hl
      have hl' : (l.length : Int) = n := by simpa using hl
      rw [beq_iff_eq] at h
      refine ⟨by omega, g2, fun j hj => ?_⟩
      have := g3 j (by omega)
      rw [h, (full_dec n (by omega)).2 j (by omega), has0 j (by omega), Bool.false_or] at this
      simpa [hj] using this
    · cases h


theorem allGo_spec {n : Nat} (hn : n ≤ 8) : ∀ (l : List Int) (met : Int), isSet met → allGo n met l = true → l.Nodup ∧ ∀ x ∈ l, has met x.toNat = false
  | [], met, _, _ => by simp
  | x :: l, met, hm, h => by
    unfold allGo at h
    by_cases h1 : x < 0
    · simp [h1] at h
    by_cases h2 : x ≥ n
    · simp [h1, h2] at h
    rw [if_neg h1, if_neg h2] at h
    obtain ⟨i, rfl⟩ : ∃ i : Nat, x = i := ⟨x.toNat, by omega⟩
    have hi : i < 8 := by omega
    have hb : has met i = false := by
      by_cases hb : bitAt met i == 1
      · rw [if_pos hb] at h; cases h
      · simpa [has] using hb
    rw [if_neg (by simpa [has] using hb)] at h
    obtain ⟨k1, k2⟩ := allGo_spec hn l _ (or_set hm hi) h
    refine ⟨List.nodup_cons.2 ⟨fun hx => ?_, k1⟩, fun y hy => ?_⟩
    · have := k2 _ hx
      rw [Int.toNat_natCast, has_or hm hi hi] at this
      simp at this
    · rcases List.mem_cons.1 hy with rfl | hy
      · exact hb
      · have := k2 y hy
        have hy8 : y.toNat < 8 := by
          have hr := allGo_rng l _ h y hy
          omega
        rw [has_or hm hi hy8, Bool.or_eq_false_iff] at this
        exact this.1
where
  allGo_rng : ∀ (l : List Int) (met : Int), allGo n met l = true → ∀ x ∈ l, 0 ≤ x ∧ x < n
    | [], _, _, x, hx => by cases hx
    | y :: l, met, h, x, hx => by
      unfold allGo at h
      split at h
      · cases h
      · split at h
        · cases h
        · split at h
          · cases h
          · rcases List.mem_cons.1 hx with rfl | hx
            · omega
            · exact allGo_rng l _ h x hx

/-- A pile of n leaves. -/
structure Pile (n : Nat) (D : List Int) : Prop where
  len : D.length = n
  rng : ∀ x ∈ D, 0 ≤ x ∧ x < n
  cov : ∀ j : Nat, j < n → (j : Int) ∈ D
  nd : D.Nodup
theorem order_pile {n : Nat} (hn : n ≤ 8) {D : List Int} (h : isOrder D n = true) : Pile n D := by
  obtain ⟨h1, h2, h3⟩ := order_spec hn h
  refine ⟨h1, h2, h3, ?_⟩
  rw [← all_eq hn, all] at h
  split at h
  · rename_i hg; exact (allGo_spec hn D 0 set0 hg).1
  · cases h
theorem strip_pile {D : List Int} (h : isStrip D = true) : 1 ≤ D.length ∧ D.length ≤ 7 ∧ Pile D.length D := by
  simp only [isStrip, Bool.and_eq_true, decide_eq_true_eq] at h
  exact ⟨h.1, h.2.1, order_pile (by omega) h.2.2⟩

theorem plG_get : ∀ (D : List Int) (i : Nat) (out : List Int) (j : Nat), D.Nodup → (∀ x ∈ D, 0 ≤ x ∧ x < out.length) → (plG i D out).getD j 0 = if (j : Int) ∈ D then ((i + D.idxOf (j : Int) : Nat) : Int) else out.getD j 0
  | [], i, out, j, _, _ => by simp [plG]
  | x :: D, i, out, j, hn, hr => by
    obtain ⟨k, rfl⟩ : ∃ k : Nat, x = k := ⟨x.toNat, by have := hr x (by simp); omega⟩
    obtain ⟨hx, hn⟩ := List.nodup_cons.1 hn
    have hk := (hr k (by simp)).2
    rw [plG, plG_get D (i + 1) _ j hn (fun y hy => by rw [List.length_set]; exact hr y (by simp [hy])), Int.toNat_natCast]
    by_cases hj : j = k
    · subst hj
      rw [if_neg hx, if_pos (by simp), List.idxOf_cons_self, Nat.add_zero, List.getD_eq_getElem?_getD, List.getElem?_set_self (by omega)]; rfl
    · have hjk : (k : Int) ≠ j := by omega
      rw [show (((k : Int) :: D).idxOf (j : Int)) = D.idxOf (j : Int) + 1 by rw [List.idxOf_cons, beq_eq_false_iff_ne.2 hjk]; rfl]
      by_cases hm : (j : Int) ∈ D
      · rw [if_pos hm, if_pos (by simp [hm])]; omega
      · rw [if_neg hm, if_neg (by simp [hm]; omega), List.getD_eq_getElem?_getD, List.getElem?_set_ne (by omega), List.getD_eq_getElem?_getD]
theorem places_get {n : Nat} {D : List Int} (h : Pile n D) {j : Nat} (hj : j < n) : (placesP D).getD j 0 = D.idxOf (j : Int) := by
  rw [placesP, plG_get D 0 _ j h.nd (fun x hx => by simpa [h.len] using h.rng x hx), if_pos (h.cov j hj), Nat.zero_add]

theorem fstJ_congr {p p' : List Int} {c : Cr} : ∀ (l : List Cr) (j : Nat), (∀ d ∈ l, crossP p c d = crossP p' c d) → fstJ p c j l = fstJ p' c j l
  | [], _, _ => rfl
  | d :: l, j, h => by
    rw [fstJ, fstJ, h d (by simp), fstJ_congr l (j + 1) fun d hd => h d (by simp [hd])]
theorem fstG_congr {p p' : List Int} : ∀ (l : List Cr) (i : Nat), l.Pairwise (fun c d => crossP p c d = crossP p' c d) → fstG p i l = fstG p' i l
  | [], _, _ => rfl
  | c :: l, i, h => by
    obtain ⟨h1, h2⟩ := List.pairwise_cons.1 h
    rw [fstG, fstG, fstJ_congr l (i + 1) h1, fstG_congr l (i + 1) h2]
theorem firstP_congr {p p' : List Int} {l : List Cr} (h : l.Pairwise (fun c d => crossP p c d = crossP p' c d)) : firstP p l = firstP p' l := fstG_congr l 0 h
theorem strip_pairs {R : Cr → Cr → Prop} {n : Nat} (h : ∀ i j, i < j → j + 1 < n → R ⟨i, i + 1, i % 2⟩ ⟨j, j + 1, j % 2⟩) : (stripC n).Pairwise R := by
  rw [stripC, stripG, List.pairwise_map]
  have := (List.pairwise_lt_range (n := n - 1)).imp_of_mem (R := (· < ·)) (S := fun i j => R ⟨i, i + 1, i % 2⟩ ⟨j, j + 1, j % 2⟩) fun {i j} hi hj hij => h i j hij (by have := List.mem_range.1 hj; omega)
  exact this

theorem idx_inj {n : Nat} {D : List Int} (h : Pile n D) {i j : Nat} (hi : i < n) (hj : j < n) (hij : i ≠ j) : D.idxOf (i : Int) ≠ D.idxOf (j : Int) := fun he => by
  have h1 := List.getElem_idxOf (List.idxOf_lt_length_of_mem (h.cov i hi))
  have h2 := List.getElem_idxOf (List.idxOf_lt_length_of_mem (h.cov j hj))
  simp only [he] at h1
  rw [h1] at h2
  omega
theorem idx_lt' {n : Nat} {D : List Int} (h : Pile n D) {i : Nat} (hi : i < n) : D.idxOf (i : Int) < n := by
  have := List.idxOf_lt_length_of_mem (h.cov i hi)
  rwa [h.len] at this

theorem within_eq {p : List Int} {c : Cr} {x : Int} (h1 : p.getD c.a 0 ≠ x) (h2 : p.getD c.b 0 ≠ x) : within p c x = (decide (p.getD c.a 0 < x) != decide (p.getD c.b 0 < x)) := by
  unfold within loP hiP
  generalize p.getD c.a 0 = A at *
  generalize p.getD c.b 0 = C at *
  by_cases h3 : A < x <;> by_cases h4 : C < x <;> by_cases h5 : C < A <;> simp only [h3, h4, h5, if_true, if_false, decide_true, decide_false, bne_self_eq_false, Bool.true_and, Bool.false_and, Bool.and_true, Bool.and_false, gt_iff_lt]
  all_goals (try split)
  all_goals (first | rfl | (simp only [h3, h4, decide_true, decide_false]; first | rfl | (simp; omega)) | (exfalso; omega) | (simp; omega))
/-- Whether creases cross, by which leaf is over which. -/
theorem cross_eq {p : List Int} {c d : Cr} (h1 : p.getD c.a 0 ≠ p.getD d.a 0) (h2 : p.getD c.b 0 ≠ p.getD d.a 0) (h3 : p.getD c.a 0 ≠ p.getD d.b 0) (h4 : p.getD c.b 0 ≠ p.getD d.b 0) :
    crossP p c d = if c.s = d.s then (decide (p.getD c.a 0 < p.getD d.a 0) != decide (p.getD c.b 0 < p.getD d.a 0)) != (decide (p.getD c.a 0 < p.getD d.b 0) != decide (p.getD c.b 0 < p.getD d.b 0)) else false := by
  unfold crossP
  by_cases hs : c.s = d.s
  · rw [if_pos hs, if_pos hs, ← within_eq h1 h2, ← within_eq h3 h4, loP, hiP]
    by_cases h : p.getD d.b 0 < p.getD d.a 0
    · rw [if_pos h, if_neg (by omega)]
      cases within p c (p.getD d.a 0) <;> cases within p c (p.getD d.b 0) <;> rfl
    · rw [if_neg h]
      split
      · rfl
      · have : p.getD d.b 0 = p.getD d.a 0 := by omega
        rw [this]
  · rw [if_neg hs, if_neg hs]

/-- Two creases of a strip cross in a pile just if they do in another one in which leaves are as they were, but turned round. -/
theorem first_turn {n : Nat} {D D' : List Int} (h : Pile n D) (h' : Pile n D') {k : Nat} (hb : k ≤ n) (ht : ∀ j : Nat, j < n → (D.idxOf (j : Int) < k → D'.idxOf (j : Int) = D.idxOf (j : Int) + (n - k)) ∧ (k ≤ D.idxOf (j : Int) → D'.idxOf (j : Int) = D.idxOf (j : Int) - k)) :
    firstP (placesP D) (stripC n) = firstP (placesP D') (stripC n) := by
  refine firstP_congr (strip_pairs fun i j hij hj => ?_)
  by_cases hs : i % 2 = j % 2
  · have hne : ∀ {D : List Int}, Pile n D → ∀ a b : Nat, a < n → b < n → a ≠ b → (placesP D).getD a 0 ≠ (placesP D).getD b 0 := fun h a b ha hb hab => by
      rw [places_get h ha, places_get h hb]
      have := idx_inj h ha hb hab
      omega
    have key : ∀ a b : Nat, a < n → b < n → a ≠ b → decide ((placesP D').getD a 0 < (placesP D').getD b 0) = (decide ((placesP D).getD a 0 < (placesP D).getD b 0) != (decide (D.idxOf (a : Int) < k) != decide (D.idxOf (b : Int) < k))) := fun a b ha hb hab => by
      rw [places_get h ha, places_get h hb, places_get h' ha, places_get h' hb]
      have a1 := idx_lt' h ha
      have a2 := idx_lt' h hb
      have a3 := idx_inj h ha hb hab
      have c1 := ht a ha
      have c2 := ht b hb
      by_cases w1 : D.idxOf (a : Int) < k <;> by_cases w2 : D.idxOf (b : Int) < k
      · rw [c1.1 w1, c2.1 w2, decide_eq_true w1, decide_eq_true w2, bne_self_eq_false, Bool.bne_false, decide_eq_decide]; omega
      · rw [c1.1 w1, c2.2 (by omega), decide_eq_true w1, decide_eq_false w2, decide_eq_true (show (D.idxOf (a : Int) : Int) < D.idxOf (b : Int) by omega), decide_eq_false (by omega)]; rfl
      · rw [c1.2 (by omega), c2.1 w2, decide_eq_false w1, decide_eq_true w2, decide_eq_false (show ¬ (D.idxOf (a : Int) : Int) < D.idxOf (b : Int) by omega), decide_eq_true (by omega)]; rfl
      · rw [c1.2 (by omega), c2.2 (by omega), decide_eq_false w1, decide_eq_false w2, bne_self_eq_false, Bool.bne_false, decide_eq_decide]; omega
    have hj2 : i + 2 ≤ j := by omega
    rw [cross_eq (hne h _ _ (by dsimp only; omega) (by dsimp only; omega) (by dsimp only; omega)) (hne h _ _ (by dsimp only; omega) (by dsimp only; omega) (by dsimp only; omega)) (hne h _ _ (by dsimp only; omega) (by dsimp only; omega) (by dsimp only; omega)) (hne h _ _ (by dsimp only; omega) (by dsimp only; omega) (by dsimp only; omega)),
      cross_eq (hne h' _ _ (by dsimp only; omega) (by dsimp only; omega) (by dsimp only; omega)) (hne h' _ _ (by dsimp only; omega) (by dsimp only; omega) (by dsimp only; omega)) (hne h' _ _ (by dsimp only; omega) (by dsimp only; omega) (by dsimp only; omega)) (hne h' _ _ (by dsimp only; omega) (by dsimp only; omega) (by dsimp only; omega))]
    dsimp only
    rw [if_pos hs, if_pos hs, key i j (by omega) (by omega) (by omega), key (i + 1) j (by omega) (by omega) (by omega), key i (j + 1) (by omega) (by omega) (by omega), key (i + 1) (j + 1) (by omega) (by omega) (by omega)]
    generalize decide ((placesP D).getD i 0 < (placesP D).getD j 0) = b1
    generalize decide ((placesP D).getD (i + 1) 0 < (placesP D).getD j 0) = b2
    generalize decide ((placesP D).getD i 0 < (placesP D).getD (j + 1) 0) = b3
    generalize decide ((placesP D).getD (i + 1) 0 < (placesP D).getD (j + 1) 0) = b4
    generalize decide (D.idxOf ((i : Nat) : Int) < k) = w1
    generalize decide (D.idxOf ((i + 1 : Nat) : Int) < k) = w2
    generalize decide (D.idxOf ((j : Nat) : Int) < k) = w3
    generalize decide (D.idxOf ((j + 1 : Nat) : Int) < k) = w4
    revert b1 b2 b3 b4 w1 w2 w3 w4
    decide
  · simp only [crossP, hs, if_false]
/-- A pile whose top is put at the bottom. -/
theorem turn_pile {n : Nat} {D : List Int} (h : Pile n D) (k : Nat) : Pile n (D.drop k ++ D.take k) := by
  have hp : (D.drop k ++ D.take k).Perm D := by
    have := List.perm_append_comm (l₁ := D.drop k) (l₂ := D.take k)
    rwa [List.take_append_drop] at this
  exact ⟨by rw [hp.length_eq]; exact h.len, fun x hx => h.rng x (hp.mem_iff.1 hx), fun j hj => hp.mem_iff.2 (h.cov j hj), hp.nodup_iff.2 h.nd⟩
theorem poss_turn {n : Nat} {D : List Int} (h : Pile n D) {k : Nat} (hk : k ≤ n) : possP (D.drop k ++ D.take k) (stripC n) = possP D (stripC n) := by
  rw [possP, possP]
  congr 1
  symm
  refine first_turn h (turn_pile h k) hk fun j hj => ?_
  have e : D.idxOf (j : Int) = (D.take k ++ D.drop k).idxOf (j : Int) := by rw [List.take_append_drop]
  have hnd : (D.take k ++ D.drop k).Nodup := by rw [List.take_append_drop]; exact h.nd
  have hm := h.cov j hj
  rw [← List.take_append_drop k D, List.mem_append] at hm
  have hdis := (List.nodup_append.1 hnd).2.2
  have hlk : (D.take k).length = k := by rw [List.length_take, h.len]; omega
  have hld : (D.drop k).length = n - k := by rw [List.length_drop, h.len]
  rw [e, List.idxOf_append, List.idxOf_append]
  by_cases hT : (j : Int) ∈ D.take k
  · have hR : (j : Int) ∉ D.drop k := fun hR => hdis _ hT _ hR rfl
    have := List.idxOf_lt_length_of_mem hT
    rw [if_pos hT, if_neg hR, hld]
    omega
  · have hR : (j : Int) ∈ D.drop k := hm.resolve_left hT
    have := List.idxOf_lt_length_of_mem hR
    rw [if_neg hT, if_pos hR, hlk]
    omega

/-- A pile, as the reference asks it. -/
def pileGo (n : Int) : Int → List Int → Bool
  | _, [] => true
  | met, x :: r => if x < 0 then false else if x ≥ n then false else if x > 60 then false else if bitAt met x == 1 then false else pileGo n (orI met (shl1 x)) r
def pileR (D : List Int) (most : Int) : Bool := if pileGo D.length 0 D then decide (1 ≤ D.length) && decide ((D.length : Int) ≤ most) else false
theorem pileGo_eq {n : Int} (hn : n ≤ 61) : ∀ (l : List Int) (met : Int), pileGo n met l = allGo n met l
  | [], _ => rfl
  | x :: l, met => by
    unfold pileGo allGo
    by_cases h1 : x < 0
    · rw [if_pos h1, if_pos h1]
    · by_cases h2 : x ≥ n
      · rw [if_neg h1, if_neg h1, if_pos h2, if_pos h2]
      · rw [if_neg h1, if_neg h1, if_neg h2, if_neg h2, if_neg (by omega), pileGo_eq hn l]
theorem pileR_eq {D : List Int} {m : Nat} (hm : m ≤ 8) : pileR D m = (decide (1 ≤ D.length) && (decide (D.length ≤ m) && isOrder D D.length)) := by
  by_cases h : D.length ≤ m
  · rw [pileR, pileGo_eq (by omega), ← all_eq (by omega) D, all, decide_eq_true h]
    have e1 : decide ((D.length : Int) ≤ m) = true := decide_eq_true (by omega)
    rw [e1]
    split <;> simp
  · have e1 : decide ((D.length : Int) ≤ m) = false := decide_eq_false (by omega)
    rw [pileR, e1, decide_eq_false h]
    split <;> simp
theorem pileR_strip (D : List Int) : pileR D 7 = isStrip D := pileR_eq (m := 7) (by omega)
theorem strip_take (D : List Int) : isStrip (D.take 11) = isStrip D := by
  by_cases h : D.length ≤ 11
  · rw [List.take_of_length_le h]
  · rw [isStrip, isStrip, decide_eq_false (show ¬ D.length ≤ 7 by omega), decide_eq_false (show ¬ (D.take 11).length ≤ 7 by simp; omega)]
    simp
theorem strip_take' {D : List Int} (h : isStrip D = true) : D.take 11 = D := by
  obtain ⟨h1, h2, -⟩ := strip_pile h
  exact List.take_of_length_le (by omega)
theorem allGo_of {n : Nat} (hn : n ≤ 8) : ∀ (l : List Int) (met : Int), isSet met → l.Nodup → (∀ x ∈ l, 0 ≤ x ∧ x < n ∧ has met x.toNat = false) → allGo n met l = true
  | [], _, _, _, _ => rfl
  | x :: l, met, hm, hnd, hx => by
    obtain ⟨x0, xn, xm⟩ := hx x (by simp)
    obtain ⟨i, rfl⟩ : ∃ i : Nat, x = i := ⟨x.toNat, by omega⟩
    obtain ⟨hnx, hnd⟩ := List.nodup_cons.1 hnd
    have hi : i < 8 := by omega
    rw [Int.toNat_natCast] at xm
    unfold allGo
    rw [if_neg (by omega), if_neg (by omega), if_neg (by rw [← Bool.not_eq_true] at xm; exact xm)]
    refine allGo_of hn l _ (or_set hm hi) hnd fun y hy => ?_
    obtain ⟨y0, yn, ym⟩ := hx y (by simp [hy])
    refine ⟨y0, yn, ?_⟩
    rw [has_or hm hi (by omega), ym, Bool.false_or, decide_eq_false]
    intro he
    have : y = i := by omega
    subst this
    exact hnx hy
theorem nodup_order {n : Nat} (hn : n ≤ 8) {D : List Int} (hl : D.length = n) (hr : ∀ x ∈ D, 0 ≤ x ∧ x < n) (hd : D.Nodup) : isOrder D n = true := by
  rw [← all_eq (by omega), all, if_pos (allGo_of hn D 0 set0 hd fun x hx => ⟨(hr x hx).1, (hr x hx).2, has0 _ (by have := hr x hx; omega)⟩), hl]; simp
theorem nodup_pile {n : Nat} (hn : n ≤ 8) {D : List Int} (hl : D.length = n) (hr : ∀ x ∈ D, 0 ≤ x ∧ x < n) (hd : D.Nodup) : Pile n D := order_pile hn (nodup_order hn hl hr hd)
theorem pile_strip {D : List Int} {n : Nat} (h : Pile n D) (h1 : 1 ≤ n) (h7 : n ≤ 7) : isStrip D = true := by
  have hl := h.len
  rw [isStrip, hl, nodup_order (by omega) hl h.rng h.nd, decide_eq_true (by omega), decide_eq_true (by omega)]; rfl
end Go.Abs.Sp
