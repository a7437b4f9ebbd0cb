/- Blocking, plain: what the program counts, and what the reference looks for; A deal that is better for all, plain. -/
import Derived.Test.YtkmmngphcodjjaaPO
namespace Go.Abs.Sp

/-- How the card of one deal stands to that of another one, for one of a set. -/
def lessAt (w : List (List Int)) (a b : List Int) (i : Nat) : Bool := decide (pos w i (a.getD i 0) < pos w i (b.getD i 0))
def outS (set : Int) (i : Nat) : Bool := bitAt set i == 0
def betterN (w : List (List Int)) (set : Int) (a b : List Int) (k : Nat) : Nat := (List.range k).countP fun i => !outS set i && lessAt w a b i
def worseN (w : List (List Int)) (set : Int) (a b : List Int) (k : Nat) : Nat := (List.range k).countP fun i => !outS set i && lessAt w b a i

theorem betterN_succ (w : List (List Int)) (set : Int) (a b : List Int) (k : Nat) : betterN w set a b (k + 1) = betterN w set a b k + if (!outS set k && lessAt w a b k) = true then 1 else 0 := by
  unfold betterN; rw [List.range_succ, List.countP_append, List.countP_singleton]
theorem worseN_succ (w : List (List Int)) (set : Int) (a b : List Int) (k : Nat) : worseN w set a b (k + 1) = worseN w set a b k + if (!outS set k && lessAt w b a k) = true then 1 else 0 := by
  unfold worseN; rw [List.range_succ, List.countP_append, List.countP_singleton]
theorem countN_le (w : List (List Int)) (set : Int) (a b : List Int) (k : Nat) : betterN w set a b k ≤ k ∧ worseN w set a b k ≤ k := by
  have h1 := List.countP_le_length (p := fun i => !outS set i && lessAt w a b i) (l := List.range k)
  have h2 := List.countP_le_length (p := fun i => !outS set i && lessAt w b a i) (l := List.range k)
  rw [List.length_range] at h1 h2
  exact ⟨h1, h2⟩

/-- A set does better with another deal. -/
def blkP (w : List (List Int)) (d : List Int) (set : Int) (strong : Bool) (o : List Int) : Bool :=
  worseN w set o d w.length == 0 && (decide (0 < betterN w set o d w.length) && (!strong || betterN w set o d w.length == pc set))

/-- The reference's search. -/
def refB (w : List (List Int)) (d : List Int) (set : Int) (strong : Bool) : Nat → Nat → Int → Bool → Bool
  | 0, _, _, better => better
  | m + 1, i, cards, better => if outS set i = true then refB w d set strong m (i + 1) cards better else
      (List.range w.length).any fun c => (bitAt cards (c : Int) == 1) && ((decide (pos w i c < pos w i (d.getD i 0)) || (pos w i c == pos w i (d.getD i 0) && !strong)) && refB w d set strong m (i + 1) (butI cards (shl1 c)) (better || decide (pos w i c < pos w i (d.getD i 0))))

/-- What is asked of the places from i on. -/
def okFrom (w : List (List Int)) (d : List Int) (set : Int) (strong : Bool) (i : Nat) (o : List Int) : Bool :=
  (List.range w.length).all fun j => decide (j < i) || outS set j || (decide (pos w j (o.getD j 0) < pos w j (d.getD j 0)) || (pos w j (o.getD j 0) == pos w j (d.getD j 0) && !strong))
def someFrom (w : List (List Int)) (d : List Int) (set : Int) (i : Nat) (o : List Int) : Bool :=
  (List.range w.length).any fun j => !decide (j < i) && !outS set j && decide (pos w j (o.getD j 0) < pos w j (d.getD j 0))

theorem comps_pre {n : Nat} {set : Int} : ∀ (m i : Nat) (left : Int) (pre : List Int), pre.length = i → ∀ o ∈ comps n set m i left pre, o.length = i + m ∧ o.take i = pre
  | 0, i, left, pre, hl, o, ho => by
    simp [comps] at ho; subst ho
    exact ⟨by omega, List.take_of_length_le (by omega)⟩
  | m + 1, i, left, pre, hl, o, ho => by
    have key : ∀ (l' : Int) (x : Int), o ∈ comps n set m (i + 1) l' (pre ++ [x]) → o.length = i + (m + 1) ∧ o.take i = pre := fun l' x h => by
      obtain ⟨h1, h2⟩ := comps_pre m (i + 1) l' (pre ++ [x]) (by simp [hl]) o h
      refine ⟨by omega, ?_⟩
      have := congrArg (List.take i) h2
      rw [List.take_take, show min i (i + 1) = i by omega, List.take_append_of_le_length (by omega)] at this
      rw [this]
      exact List.take_of_length_le (by omega)
    unfold comps at ho
    split at ho
    · exact key _ _ ho
    · simp only [List.mem_flatMap, List.mem_range] at ho
      obtain ⟨c, _, ho⟩ := ho
      split at ho
      · exact key _ _ ho
      · cases ho

theorem any_congr {α : Type} {p q : α → Bool} : ∀ {l : List α}, (∀ x ∈ l, p x = q x) → l.any p = l.any q
  | [], _ => rfl
  | x :: r, h => by rw [List.any_cons, List.any_cons, h x (by simp), any_congr fun y hy => h y (by simp [hy])]
theorem all_congr' {α : Type} {p q : α → Bool} : ∀ {l : List α}, (∀ x ∈ l, p x = q x) → l.all p = l.all q
  | [], _ => rfl
  | x :: r, h => by rw [List.all_cons, List.all_cons, h x (by simp), all_congr' fun y hy => h y (by simp [hy])]
theorem all_and {α : Type} (p q : α → Bool) (l : List α) : (l.all fun x => p x && q x) = (l.all p && l.all q) := by
  induction l with
  | nil => rfl
  | cons x r ih => simp only [List.all_cons, ih]; cases p x <;> cases q x <;> cases r.all p <;> cases r.all q <;> rfl

theorem okFrom_step {w : List (List Int)} {d : List Int} {set : Int} {strong : Bool} {i : Nat} {o : List Int} (hi : i < w.length) :
    okFrom w d set strong i o = ((outS set i || (decide (pos w i (o.getD i 0) < pos w i (d.getD i 0)) || (pos w i (o.getD i 0) == pos w i (d.getD i 0) && !strong))) && okFrom w d set strong (i + 1) o) := by
  rw [Bool.eq_iff_iff, Bool.and_eq_true]
  unfold okFrom
  simp only [List.all_eq_true, List.mem_range]
  constructor
  · intro h
    refine ⟨?_, fun j hj => ?_⟩
    · have := h i hi
      simpa using this
    · have := h j hj
      by_cases hji : j = i
      · subst hji; simp
      · rw [show decide (j < i + 1) = decide (j < i) from decide_eq_decide.2 (by omega)]; exact this
  · rintro ⟨h1, h2⟩ j hj
    by_cases hji : j = i
    · subst hji
      rw [Bool.or_assoc, h1, Bool.or_true]
    · have := h2 j hj
      rwa [show decide (j < i + 1) = decide (j < i) from decide_eq_decide.2 (by omega)] at this

theorem someFrom_step {w : List (List Int)} {d : List Int} {set : Int} {i : Nat} {o : List Int} (hi : i < w.length) :
    someFrom w d set i o = ((!outS set i && decide (pos w i (o.getD i 0) < pos w i (d.getD i 0))) || someFrom w d set (i + 1) o) := by
  rw [Bool.eq_iff_iff, Bool.or_eq_true]
  unfold someFrom
  simp only [List.any_eq_true, List.mem_range]
  constructor
  · rintro ⟨j, hj, h⟩
    by_cases hji : j = i
    · subst hji; left; simpa using h
    · right
      exact ⟨j, hj, by rwa [show decide (j < i + 1) = decide (j < i) from decide_eq_decide.2 (by omega)]⟩
  · rintro (h | ⟨j, hj, h⟩)
    · exact ⟨i, hi, by simpa using h⟩
    · refine ⟨j, hj, ?_⟩
      have hji : ¬ j < i + 1 := by
        intro hlt
        rw [decide_eq_true hlt] at h
        simp at h
      rw [decide_eq_false (show ¬ j < i by omega)]
      rwa [decide_eq_false hji] at h

theorem refB_comps {w : List (List Int)} {d : List Int} {set : Int} {strong : Bool} : ∀ (m i : Nat) (cards : Int) (better : Bool) (pre : List Int), i + m = w.length → pre.length = i →
    refB w d set strong m i cards better = (comps w.length set m i cards pre).any fun o => okFrom w d set strong i o && (better || someFrom w d set i o)
  | 0, i, cards, better, pre, him, hl => by
    have h1 : okFrom w d set strong i pre = true := by
      unfold okFrom
      rw [List.all_eq_true]
      intro j hj
      rw [decide_eq_true (show j < i by have := List.mem_range.1 hj; omega)]; rfl
    have h2 : someFrom w d set i pre = false := by
      unfold someFrom
      rw [List.any_eq_false]
      intro j hj
      rw [decide_eq_true (show j < i by have := List.mem_range.1 hj; omega)]; simp
    simp only [refB, comps, List.any_cons, List.any_nil, h1, h2, Bool.true_and, Bool.or_false]
  | m + 1, i, cards, better, pre, him, hl => by
    have hi : i < w.length := by omega
    unfold refB comps
    by_cases ho : outS set i = true
    · have ho' : (bitAt set (i : Int) == 0) = true := ho
      rw [if_pos ho, if_pos ho', refB_comps m (i + 1) cards better (pre ++ [0]) (by omega) (by simp [hl])]
      refine any_congr fun o _ => ?_
      rw [okFrom_step hi, someFrom_step hi, ho]
      simp
    · have ho2 : outS set i = false := by simpa using ho
      have ho' : (bitAt set (i : Int) == 0) = false := ho2
      rw [if_neg ho, ho']
      simp only [Bool.false_eq_true, if_false]
      rw [List.any_flatMap]
      refine any_congr fun c _ => ?_
      cases hb : (bitAt cards (c : Int) == 1) with
      | false => simp
      | true =>
        rw [Bool.true_and, if_pos rfl, refB_comps m (i + 1) _ _ (pre ++ [(c : Int)]) (by omega) (by simp [hl])]
        have hval : ∀ o ∈ comps w.length set m (i + 1) (butI cards (shl1 c)) (pre ++ [(c : Int)]), o.getD i 0 = c := fun o hmem => by
          obtain ⟨h1, h2⟩ := comps_pre m (i + 1) _ _ (by simp [hl]) o hmem
          have : (o.take (i + 1)).getD i 0 = c := by rw [h2, List.getD_eq_getElem?_getD, List.getElem?_append_right (by omega)]; simp [hl]
          rwa [List.getD_eq_getElem?_getD, List.getElem?_take, if_pos (by omega), ← List.getD_eq_getElem?_getD] at this
        generalize comps w.length set m (i + 1) (butI cards (shl1 c)) (pre ++ [(c : Int)]) = L at hval
        induction L with
        | nil => simp
        | cons o L ih =>
          rw [List.any_cons, List.any_cons, Bool.and_or_distrib_left, ih fun x hx => hval x (by simp [hx])]
          congr 1
          rw [okFrom_step hi (o := o), someFrom_step hi (o := o), ho2, hval o (by simp)]
          simp only [Bool.false_or, Bool.not_false, Bool.true_and, Bool.and_assoc, Bool.or_assoc]

theorem count_and {α : Type} (p q : α → Bool) : ∀ l : List α, l.countP p = (l.countP fun x => p x && q x) + l.countP fun x => p x && !q x
  | [] => rfl
  | x :: l => by
    have := count_and p q l
    simp only [List.countP_cons, this]
    cases p x <;> cases q x <;> simp <;> omega
theorem pc_count {n : Nat} {set : Int} (hn : n ≤ 6) (hs : isSet set) (hb : ∀ j : Nat, n ≤ j → j < 6 → has set j = false) : pc set = (List.range n).countP fun i => !outS set i := by
  have h1 : ∀ k, k ≤ 6 → n ≤ k → ((List.range k).countP fun j => has set j) = (List.range n).countP fun j => has set j := by
    intro k
    induction k with
    | zero => intro _ h; rw [show n = 0 by omega]
    | succ k ih =>
      intro h6 hk
      by_cases h : n ≤ k
      · rw [List.range_succ, List.countP_append, ih (by omega) h, List.countP_singleton, hb k h (by omega)]; simp
      · rw [show n = k + 1 by omega]
  unfold pc
  rw [h1 6 (by omega) hn]
  have key : ∀ l : List Nat, (∀ j ∈ l, j < 6) → (l.countP fun j => has set j) = l.countP fun i => !outS set i := by
    intro l
    induction l with
    | nil => intro _; rfl
    | cons j l ih =>
      intro h
      rw [List.countP_cons, List.countP_cons, ih fun x hx => h x (by simp [hx]), outS, bit_zero hs (h j (by simp)), Bool.not_not]
  exact key _ fun j hj => by have := List.mem_range.1 hj; omega

theorem blk_ok {w : List (List Int)} {d : List Int} {set : Int} {strong : Bool} {o : List Int} (hn : w.length ≤ 6) (hs : isSet set) (hb : ∀ j : Nat, w.length ≤ j → j < 6 → has set j = false) :
    blkP w d set strong o = (okFrom w d set strong 0 o && (false || someFrom w d set 0 o)) := by
  rw [Bool.false_or, Bool.eq_iff_iff]
  unfold blkP okFrom someFrom
  rw [pc_count hn hs hb, count_and (fun i => !outS set i) (lessAt w o d) (List.range w.length)]
  simp only [Bool.and_eq_true, beq_iff_eq, decide_eq_true_eq, List.all_eq_true, List.any_eq_true, List.mem_range, worseN, betterN, List.countP_eq_zero, List.countP_pos_iff, Bool.or_eq_true, Bool.not_eq_true', lessAt, decide_eq_false_iff_not, Nat.not_lt_zero, false_or, not_false_eq_true, true_and]
  constructor
  · rintro ⟨h1, ⟨i, hi, h2, h3⟩, h4⟩
    refine ⟨fun j hj => ?_, i, hi, h2, h3⟩
    cases ho : outS set j with
    | true => exact .inl rfl
    | false =>
      right
      have h1 := h1 j hj
      rw [ho] at h1
      simp only [true_and] at h1
      rcases h4 with h4 | h4
      · by_cases hl : pos w j (o.getD j 0) < pos w j (d.getD j 0)
        · exact .inl hl
        · exact .inr ⟨by omega, h4⟩
      · left
        have h5 : (List.range w.length).countP (fun i => !outS set i && !decide (pos w i (o.getD i 0) < pos w i (d.getD i 0))) = 0 := by
          omega
        rw [List.countP_eq_zero] at h5
        have := h5 j (List.mem_range.2 hj)
        rw [ho] at this
        simpa using this
  · rintro ⟨h1, i, hi, h2, h3⟩
    refine ⟨fun j hj => ?_, ⟨i, hi, h2, h3⟩, ?_⟩
    · rintro ⟨ho, h5⟩
      rcases h1 j hj with h | h | ⟨h, -⟩
      · rw [ho] at h; cases h
      · omega
      · omega
    · cases strong with
      | false => exact .inl rfl
      | true =>
        right
        have h5 : (List.range w.length).countP (fun i => !outS set i && !decide (pos w i (o.getD i 0) < pos w i (d.getD i 0))) = 0 := by
          rw [List.countP_eq_zero]
          intro j hj
          rcases h1 j (List.mem_range.1 hj) with h | h | ⟨-, h⟩
          · rw [h]; simp
          · rw [decide_eq_true h]; simp
          · cases h
        omega
/-- The program's search answers as the reference's. -/
theorem blk_ref {w : List (List Int)} {d : List Int} {set : Int} {strong : Bool} (hn : w.length ≤ 6) (hs : isSet set) (hb : ∀ j : Nat, w.length ≤ j → j < 6 → has set j = false) :
    ((comps w.length set w.length 0 set []).any (blkP w d set strong)) = refB w d set strong w.length 0 set false := by
  rw [refB_comps w.length 0 set false [] (by omega) rfl]
  exact any_congr fun o _ => blk_ok hn hs hb
end Go.Abs.Sp

namespace Go.Abs.Sp

def goodN (w : List (List Int)) (d o : List Int) (k : Nat) : Bool := (List.range k).all fun i => decide (pos w i (o.getD i 0) ≤ pos w i (d.getD i 0))
def betN (w : List (List Int)) (d o : List Int) (k : Nat) : Bool := (List.range k).any fun i => lessAt w o d i
theorem goodN_succ (w : List (List Int)) (d o : List Int) (k : Nat) : goodN w d o (k + 1) = (goodN w d o k && decide (pos w k (o.getD k 0) ≤ pos w k (d.getD k 0))) := by
  unfold goodN; rw [List.range_succ, List.all_append]; simp
theorem betN_succ (w : List (List Int)) (d o : List Int) (k : Nat) : betN w d o (k + 1) = (betN w d o k || lessAt w o d k) := by
  unfold betN; rw [List.range_succ, List.any_append]; simp

theorem full_set {n : Nat} (hn : n ≤ 6) : isSet (fullS n) ∧ (∀ j : Nat, n ≤ j → j < 6 → has (fullS n) j = false) ∧ ∀ j : Nat, j < n → outS (fullS n) j = false := by
  have h := full_dec n (by omega)
  refine ⟨h.1, fun j h1 h2 => ?_, fun j hj => ?_⟩
  · unfold fullS; rw [h.2 j h2, decide_eq_false (by omega)]
  · unfold outS fullS; rw [bit_zero h.1 (by omega), h.2 j (by omega), decide_eq_true hj]; rfl

/-- A deal is better for all: nobody has a worse card, and somebody a better one. -/
theorem waste_iff {w : List (List Int)} {d o : List Int} (hn : w.length ≤ 6) : blkP w d (fullS w.length) false o = true ↔ (∀ i : Nat, i < w.length → pos w i (o.getD i 0) ≤ pos w i (d.getD i 0)) ∧ ∃ i : Nat, i < w.length ∧ pos w i (o.getD i 0) < pos w i (d.getD i 0) := by
  obtain ⟨h1, h2, h3⟩ := full_set hn
  rw [blk_ok hn h1 h2, Bool.false_or, Bool.and_eq_true]
  unfold okFrom someFrom
  simp only [List.all_eq_true, List.any_eq_true, List.mem_range, Bool.or_eq_true, Bool.and_eq_true, decide_eq_true_eq, beq_iff_eq, Nat.not_lt_zero, decide_false, Bool.not_false, Bool.false_eq_true, false_or, true_and, and_true]
  constructor
  · rintro ⟨h4, i, hi, h5, h6⟩
    refine ⟨fun j hj => ?_, i, hi, h6⟩
    rcases h4 j hj with h | h | h
    · rw [h3 j hj] at h; cases h
    · omega
    · omega
  · rintro ⟨h4, i, hi, h5⟩
    refine ⟨fun j hj => ?_, i, hi, by rw [h3 i hi]; rfl, h5⟩
    have := h4 j hj
    by_cases h : pos w j (o.getD j 0) < pos w j (d.getD j 0)
    · exact .inr (.inl h)
    · exact .inr (.inr (by omega))
theorem waste_eq {w : List (List Int)} {d o : List Int} (hn : w.length ≤ 6) : blkP w d (fullS w.length) false o = (goodN w d o w.length && betN w d o w.length) := by
  rw [Bool.eq_iff_iff, waste_iff hn, Bool.and_eq_true]
  unfold goodN betN lessAt
  simp only [List.all_eq_true, List.any_eq_true, List.mem_range, decide_eq_true_eq]
end Go.Abs.Sp
