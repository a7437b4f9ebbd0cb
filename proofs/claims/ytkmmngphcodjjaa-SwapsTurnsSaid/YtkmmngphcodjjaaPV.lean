/- Valid wishes, plain: the program's question and the reference's are one. -/
import Derived.Test.YtkmmngphcodjjaaPB
namespace Go.Abs.Sp

def pc (m : Int) : Nat := (List.range 6).countP fun j => has m j

theorem pc_dec : ∀ k : Nat, k < 64 → ∀ i : Nat, i < 6 → pc (orI k (shl1 i)) = pc k + if has k i then 0 else 1 := by decide +kernel
theorem pc_or {m : Int} (hm : isSet m) {i : Nat} (hi : i < 6) : pc (orI m (shl1 i)) = pc m + if has m i then 0 else 1 := allSets (p := fun m => ∀ i : Nat, i < 6 → pc (orI m (shl1 i)) = pc m + if has m i then 0 else 1) pc_dec hm i hi
theorem pc_full_dec : ∀ n : Nat, n < 7 → pc (IntKind.i64.wrap (shl1 n - 1)) = n := by decide +kernel
theorem full_of_dec : ∀ k : Nat, k < 64 → ∀ n : Nat, n < 7 → (∀ j : Nat, j < 6 → has k j = true → j < n) → pc k = n → (k : Int) = IntKind.i64.wrap (shl1 n - 1) := by decide +kernel
theorem full_of {m : Int} (hm : isSet m) {n : Nat} (hn : n < 7) (h : ∀ j : Nat, j < 6 → has m j = true → j < n) (hp : pc m = n) : m = IntKind.i64.wrap (shl1 n - 1) :=
  allSets (p := fun m => ∀ n : Nat, n < 7 → (∀ j : Nat, j < 6 → has m j = true → j < n) → pc m = n → m = IntKind.i64.wrap (shl1 n - 1)) full_of_dec hm n hn h hp

theorem go_spec {n : Nat} (hn : n ≤ 6) : ∀ (l : List Int) (met : Int), isSet met → match isOrderGo n met l with
    | none => allGo n met l = false
    | some s => isSet s ∧ (∀ x ∈ l, 0 ≤ x ∧ x < n) ∧ (∀ j : Nat, j < 6 → has s j = (has met j || decide ((j : Int) ∈ l))) ∧ pc s ≤ pc met + l.length ∧ (allGo n met l = true ↔ pc s = pc met + l.length)
  | [], met, hm => by simp [isOrderGo, allGo, hm]
  | x :: l, met, hm => by
    unfold isOrderGo allGo
    by_cases h1 : x < 0
    · simp [h1]
    by_cases h2 : x ≥ n
    · simp [h1, h2]
    rw [if_neg h1, if_neg h2, if_neg h1, if_neg h2]
    obtain ⟨i, rfl⟩ : ∃ i : Nat, x = i := ⟨x.toNat, by omega⟩
    have hi : i < 6 := by omega
    have ih := go_spec hn l (orI met (shl1 i)) (or_set hm hi)
    have hpc := pc_or hm hi
    have hor := fun {j : Nat} (hj : j < 6) => has_or hm hi hj
    change match isOrderGo n (orI met (shl1 i)) l with
      | none => (if has met i = true then false else allGo n (orI met (shl1 i)) l) = false
      | some s => isSet s ∧ (∀ x ∈ (i : Int) :: l, 0 ≤ x ∧ x < n) ∧ (∀ j : Nat, j < 6 → has s j = (has met j || decide ((j : Int) ∈ (i : Int) :: l))) ∧ pc s ≤ pc met + ((i : Int) :: l).length ∧ ((if has met i = true then false else allGo n (orI met (shl1 i)) l) = true ↔ pc s = pc met + ((i : Int) :: l).length)
    cases hg : isOrderGo n (orI met (shl1 i)) l with
    | none =>
      rw [hg] at ih
      simp only at ih ⊢
      split
      · rfl
      · exact ih
    | some s =>
      rw [hg] at ih
      obtain ⟨g1, g2, g3, g4, g5⟩ := ih
      refine ⟨g1, fun y hy => ?_, fun j hj => ?_, ?_, ?_⟩
      · rcases List.mem_cons.1 hy with rfl | hy
        · omega
        · exact g2 y hy
      · rw [g3 j hj, hor hj, Bool.or_assoc]
        congr 1
        rw [← Bool.decide_or]
        congr 1
        simp only [List.mem_cons, Int.natCast_inj]
      · rw [List.length_cons]; split at hpc <;> omega
      · rw [List.length_cons]
        by_cases hh : has met i = true
        · rw [if_pos hh] at hpc ⊢
          constructor
          · intro h; cases h
          · intro h; omega
        · rw [if_neg hh] at hpc ⊢
          rw [g5]; constructor <;> intro h <;> omega

theorem set0 : isSet 0 := ⟨by decide, by decide⟩
theorem has0 : ∀ j : Nat, j < 6 → has 0 j = false := by decide +kernel
theorem pc0 : pc 0 = 0 := by decide +kernel

/-- The two questions are one. -/
theorem all_eq {n : Nat} (hn : n ≤ 6) (l : List Int) : all l n = isOrder l n := by
  have h := go_spec hn l 0 set0
  unfold all isOrder
  cases hg : isOrderGo n 0 l with
  | none =>
    rw [hg] at h
    simp only at h
    rw [h]; rfl
  | some s =>
    rw [hg] at h
    obtain ⟨g1, g2, g3, g4, g5⟩ := h
    rw [pc0] at g4 g5
    dsimp only
    by_cases hl : (l.length : Int) = n
    · have hl' : l.length = n := by omega
      rw [if_pos (show (((l.length : Int) == (n : Int)) = true) by simpa using hl)]
      have e1 : ((l.length : Int) == (n : Int)) = true := by simpa using hl
      rw [e1]
      have hbits : ∀ j : Nat, j < 6 → has s j = true → j < n := fun j hj hh => by
        rw [g3 j hj, has0 j hj, Bool.false_or, decide_eq_true_eq] at hh
        have := g2 _ hh; omega
      by_cases ha : allGo n 0 l = true
      · rw [if_pos ha]
        have := full_of g1 (by omega : n < 7) hbits (by have := g5.1 ha; omega)
        simp [this]
      · rw [if_neg ha]
        symm
        rw [beq_eq_false_iff_ne]
        rintro rfl
        exact ha (g5.2 (by rw [pc_full_dec n (by omega)]; omega))
    · have e1 : ((l.length : Int) == (n : Int)) = false := by simpa using hl
      rw [e1]
      simp

theorem order_spec {n : Nat} (hn : n ≤ 6) {l : List Int} (h : isOrder l n = true) : l.length = n ∧ (∀ x ∈ l, 0 ≤ x ∧ x < n) ∧ ∀ j : Nat, j < n → (j : Int) ∈ l := by
  have g := go_spec hn l 0 set0
  unfold isOrder at h
  cases hg : isOrderGo n 0 l with
  | none => rw [hg] at h; cases h
  | some s =>
    rw [hg] at h g
    obtain ⟨g1, g2, g3, -, -⟩ := g
    dsimp only at h
    split at h
    · rename_i hl
      have hl' : (l.length : Int) = n := by simpa using hl
      rw [beq_iff_eq] at h
      refine ⟨by omega, g2, fun j hj => ?_⟩
      have := g3 j (by omega)
      rw [h, (full_dec n (by omega)).2 j (by omega), has0 j (by omega), Bool.false_or] at this
      simpa [hj] using this
    · cases h

theorem idx_neg {α : Type} {p : α → Bool} : ∀ {xs : List α}, idx p xs < 0 ↔ ∀ x ∈ xs, p x = false
  | [] => by simp [idx]
  | x :: r => by
    have ih := idx_neg (p := p) (xs := r)
    unfold idx
    by_cases hx : p x = true
    · simp [hx]
    · rw [if_neg hx]
      have hx' : p x = false := by simpa using hx
      by_cases hr : idx p r < 0
      · rw [if_pos hr]
        simp only [List.mem_cons, forall_eq_or_imp, hx', true_and]
        exact ⟨fun _ => ih.1 hr, fun _ => by omega⟩
      · rw [if_neg hr]
        simp only [List.mem_cons, forall_eq_or_imp, hx', true_and]
        rw [← ih]; omega

theorem valid_iff {w : List (List Int)} : valid w = true ↔ 1 ≤ w.length ∧ w.length ≤ 6 ∧ ∀ l ∈ w, isOrder l w.length = true := by
  unfold valid
  split
  · rename_i h
    simp only [Bool.not_eq_true', decide_eq_false_iff_not]
    rw [show (¬ idx (fun l => !isOrder l w.length) w ≥ 0) ↔ idx (fun l => !isOrder l w.length) w < 0 by omega, idx_neg]
    simp only [Bool.not_eq_false']
    exact ⟨fun hh => ⟨h.1, h.2, hh⟩, fun hh => hh.2.2⟩
  · rename_i h
    constructor
    · intro hh; cases hh
    · intro hh; exact absurd ⟨hh.1, hh.2.1⟩ h

theorem valid_good {w : List (List Int)} (h : valid w = true) : Good w := by
  obtain ⟨h1, h2, h3⟩ := valid_iff.1 h
  exact ⟨h1, h2, fun l hl => (order_spec h2 (h3 l hl)).2.1, fun l hl => (order_spec h2 (h3 l hl)).2.2, fun l hl => (order_spec h2 (h3 l hl)).1⟩

theorem wishes_valid (w : List (List Int)) : wishes w = valid w := by
  by_cases h : 1 ≤ w.length ∧ w.length ≤ 6
  · unfold wishes
    have e : (w.all fun l => all l w.length) = w.all fun l => isOrder l w.length := by
      congr 1; funext l; exact all_eq h.2 l
    rw [e]
    by_cases ha : (w.all fun l => isOrder l w.length) = true
    · rw [if_pos ha, if_pos h.1]
      rw [valid_iff.2 ⟨h.1, h.2, List.all_eq_true.1 ha⟩]
      simpa using h.2
    · rw [if_neg ha]
      symm
      by_cases hv : valid w = true
      · exact absurd (List.all_eq_true.2 (valid_iff.1 hv).2.2) ha
      · simpa using hv
  · have h1 : valid w = false := by unfold valid; rw [if_neg h]
    rw [h1]
    unfold wishes
    split
    · split
      · rename_i hx; simp; omega
      · rfl
    · rfl

theorem take_valid (w : List (List Int)) (h : valid w = true) : table w = w := by
  obtain ⟨h1, h2, h3⟩ := valid_iff.1 h
  unfold table
  rw [List.take_of_length_le (by omega)]
  rw [List.map_congr_left (g := id) fun l hl => by
    have := (order_spec h2 (h3 l hl)).1
    exact List.take_of_length_le (by omega)]
  simp

theorem table_valid (w : List (List Int)) : valid (table w) = valid w := by
  by_cases h : valid w = true
  · rw [take_valid w h]
  · by_cases ht : valid (table w) = true
    · exfalso
      apply h
      obtain ⟨h1, h2, h3⟩ := valid_iff.1 ht
      have hl : (table w).length = min 9 w.length := by simp [table]
      have hl2 : w.length = (table w).length := by omega
      refine valid_iff.2 ⟨by omega, by omega, fun l hlm => ?_⟩
      have hm : l.take 9 ∈ table w := by
        unfold table
        rw [List.take_of_length_le (by omega)]
        exact List.mem_map_of_mem hlm
      have hs := h3 _ hm
      have hlen := (order_spec h2 hs).1
      rw [List.length_take] at hlen
      have : l.take 9 = l := List.take_of_length_le (by omega)
      rw [this, ← hl2] at hs
      exact hs
    · simp only [Bool.not_eq_true] at h ht; rw [h, ht]

end Go.Abs.Sp
