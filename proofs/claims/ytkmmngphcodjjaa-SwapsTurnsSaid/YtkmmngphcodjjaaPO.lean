/- All orders, plain: how the program and the reference count them up. -/
import Derived.Test.YtkmmngphcodjjaaPN
namespace Go.Abs.Sp

/-- The program's: the cards of a set to its collectors, the others get 0. -/
def comps (n : Nat) (set : Int) : Nat → Nat → Int → List Int → List (List Int)
  | 0, _, _, pre => [pre]
  | m + 1, i, left, pre => if (bitAt set i == 0) = true then comps n set m (i + 1) left (pre ++ [0]) else
      (List.range n).flatMap fun (c : Nat) => if (bitAt left (c : Int) == 1) = true then comps n set m (i + 1) (butI left (shl1 c)) (pre ++ [(c : Int)]) else []
/-- The reference's. -/
def dealsR (n : Nat) : Nat → List Int → List (List Int)
  | 0, b => [b]
  | m + 1, b => (List.range n).flatMap fun (x : Nat) => if (x : Int) ∈ b then [] else dealsR n m (b ++ [(x : Int)])

theorem comps_deals {n : Nat} (hn : n ≤ 6) : ∀ (m i : Nat) (left : Int) (pre : List Int), i + m = n → isSet left → (∀ c : Nat, c < n → (has left c = true ↔ (c : Int) ∉ pre)) → comps n (fullS n) m i left pre = dealsR n m pre
  | 0, _, _, _, _, _, _ => rfl
  | m + 1, i, left, pre, him, hs, hl => by
    have hb : (bitAt (fullS n) i == 0) = false := by
      rw [bit_zero (left_full hn).set (show i < 6 by omega), fullS, (full_dec n (by omega)).2 i (by omega)]
      simp; omega
    unfold comps dealsR
    rw [hb]
    simp only [Bool.false_eq_true, if_false]
    unfold List.flatMap
    congr 1
    apply List.map_congr_left
    intro c hc
    have hc := List.mem_range.1 hc
    have h1 : (bitAt left (c : Int) == 1) = has left c := rfl
    have hsh := shl_set c (by omega)
    rw [h1]
    by_cases hcp : (c : Int) ∈ pre
    · have : has left c = false := by
        cases hh : has left c with
        | false => rfl
        | true => exact absurd hcp ((hl c hc).1 hh)
      rw [this, if_neg (by simp), if_pos hcp]
    · rw [(hl c hc).2 hcp, if_pos rfl, if_neg hcp]
      refine comps_deals hn m (i + 1) _ _ (by omega) (but_set hs hsh.1) fun x hx => ?_
      rw [has_but hs hsh.1 (by omega), hsh.2 x (by omega), Bool.and_eq_true, hl x hx, List.mem_append, List.mem_singleton]
      simp only [Bool.not_eq_true', decide_eq_false_iff_not]
      constructor
      · rintro ⟨h1, h2⟩ (h3 | h3)
        · exact h1 h3
        · exact h2 (by omega)
      · intro h
        exact ⟨fun h3 => h (.inl h3), fun h3 => h (.inr (by omega))⟩

theorem deals_ok {n : Nat} : ∀ (m : Nat) (b : List Int), b.length + m = n → (∀ x ∈ b, 0 ≤ x ∧ x < n) → ∀ o ∈ dealsR n m b, o.length = n ∧ ∀ x ∈ o, 0 ≤ x ∧ x < n
  | 0, b, hl, hb, o, ho => by
    simp [dealsR] at ho
    subst ho
    exact ⟨by omega, hb⟩
  | m + 1, b, hl, hb, o, ho => by
    simp only [dealsR, List.mem_flatMap, List.mem_range] at ho
    obtain ⟨x, hx, ho⟩ := ho
    split at ho
    · cases ho
    · refine deals_ok m _ (by simp; omega) (fun y hy => ?_) o ho
      rcases List.mem_append.1 hy with hy | hy
      · exact hb y hy
      · simp at hy; omega

/-- All deals, in order. -/
def allDeals (n : Nat) : List (List Int) := dealsR n n []
theorem comps_all {n : Nat} (hn : n ≤ 6) : comps n (fullS n) n 0 (fullS n) [] = allDeals n :=
  comps_deals hn n 0 _ _ (by omega) (left_full hn).set fun c hc => by
    unfold has fullS
    have := (full_dec n (by omega)).2 c (by omega)
    unfold has at this
    rw [this, decide_eq_true hc]; simp
theorem all_ok {n : Nat} {o : List Int} (h : o ∈ allDeals n) : o.length = n ∧ ∀ x ∈ o, 0 ≤ x ∧ x < n := deals_ok n [] (by simp) (by simp) o h
end Go.Abs.Sp
