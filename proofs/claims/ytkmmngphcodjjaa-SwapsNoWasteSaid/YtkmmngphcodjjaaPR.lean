/- Blocking,plain: what the program counts,and what the reference looks for; A deal that is better for all,plain. -/
import Derived.Test.YtkmmngphcodjjaaPO
namespace Go.Abs.Sp
def lessAt (w : List (List Int)) (a b : List Int) (i : Nat) : Bool := decide (pos w i (a.getD i 0) < pos w i (b.getD i 0))
def outS (set : Int) (i : Nat) : Bool := bitAt set i == 0
def betterN (w : List (List Int)) (set : Int) (a b : List Int) (k : Nat) : Nat := (List.range k).countP fun i => !outS set i && lessAt w a b i
def worseN (w : List (List Int)) (set : Int) (a b : List Int) (k : Nat) : Nat := (List.range k).countP fun i => !outS set i && lessAt w b a i
theorem betterN_succ (w : List (List Int)) (set : Int) (a b : List Int) (k : Nat) : betterN w set a b (k + 1) = betterN w set a b k + if (!outS set k && lessAt w a b k) = true then 1 else 0 := by
  unfold betterN; rw [List.range_succ,List.countP_append,List.countP_singleton]
theorem worseN_succ (w : List (List Int)) (set : Int) (a b : List Int) (k : Nat) : worseN w set a b (k + 1) = worseN w set a b k + if (!outS set k && lessAt w b a k) = true then 1 else 0 := by
  unfold worseN; rw [List.range_succ,List.countP_append,List.countP_singleton]
theorem countN_le (w : List (List Int)) (set : Int) (a b : List Int) (k : Nat) : betterN w set a b k ≤ k ∧ worseN w set a b k ≤ k := by
  have h1 := List.countP_le_length (p := fun i => !outS set i && lessAt w a b i) (l := List.range k)
  have h2 := List.countP_le_length (p := fun i => !outS set i && lessAt w b a i) (l := List.range k)
  rw [List.length_range] at h1 h2
  exact ⟨h1,h2⟩
def blkP (w : List (List Int)) (d : List Int) (set : Int) (strong : Bool) (o : List Int) : Bool :=
  worseN w set o d w.length == 0 && (decide (0 < betterN w set o d w.length) && (!strong || betterN w set o d w.length == pc set))
def okFrom (w : List (List Int)) (d : List Int) (set : Int) (strong : Bool) (i : Nat) (o : List Int) : Bool :=
  (List.range w.length).all fun j => decide (j < i) || outS set j || (decide (pos w j (o.getD j 0) < pos w j (d.getD j 0)) || (pos w j (o.getD j 0) == pos w j (d.getD j 0) && !strong))
def someFrom (w : List (List Int)) (d : List Int) (set : Int) (i : Nat) (o : List Int) : Bool :=
  (List.range w.length).any fun j => !decide (j < i) && !outS set j && decide (pos w j (o.getD j 0) < pos w j (d.getD j 0))
theorem count_and {α : Type} (p q : α → Bool) : ∀ l : List α,l.countP p = (l.countP fun x => p x && q x) + l.countP fun x => p x && !q x
  | [] => rfl
  | x :: l => by
    have := count_and p q l
    simp only [List.countP_cons,this]
    cases p x <;> cases q x <;> simp <;> omega
theorem pc_count {n : Nat} {set : Int} (hn : n ≤ 6) (hs : isSet set) (hb : ∀ j : Nat,n ≤ j → j < 6 → has set j = false) : pc set = (List.range n).countP fun i => !outS set i := by
  have h1 : ∀ k,k ≤ 6 → n ≤ k → ((List.range k).countP fun j => has set j) = (List.range n).countP fun j => has set j := by
    intro k
    induction k with
    | zero => intro _ h; rw [show n = 0 by omega]
    | succ k ih =>
      intro h6 hk
      by_cases h : n ≤ k
      · rw [List.range_succ,List.countP_append,ih (by omega) h,List.countP_singleton,hb k h (by omega)]; simp
      · rw [show n = k + 1 by omega]
  unfold pc
  rw [h1 6 (by omega) hn]
  have key : ∀ l : List Nat,(∀ j ∈ l,j < 6) → (l.countP fun j => has set j) = l.countP fun i => !outS set i := by
    intro l
    induction l with
    | nil => intro _; rfl
    | cons j l ih =>
      intro h
      rw [List.countP_cons,List.countP_cons,ih fun x hx => h x (by simp [hx]),outS,bit_zero hs (h j (by simp)),Bool.not_not]
  exact key _ fun j hj => by have := List.mem_range.1 hj; omega
theorem blk_ok {w : List (List Int)} {d : List Int} {set : Int} {strong : Bool} {o : List Int} (hn : w.length ≤ 6) (hs : isSet set) (hb : ∀ j : Nat,w.length ≤ j → j < 6 → has set j = false) :
    blkP w d set strong o = (okFrom w d set strong 0 o && (false || someFrom w d set 0 o)) := by
  rw [Bool.false_or,Bool.eq_iff_iff]
  unfold blkP okFrom someFrom
  rw [pc_count hn hs hb,count_and (fun i => !outS set i) (lessAt w o d) (List.range w.length)]
  simp only [Bool.and_eq_true,beq_iff_eq,decide_eq_true_eq,List.all_eq_true,List.any_eq_true,List.mem_range,worseN,betterN,List.countP_eq_zero,List.countP_pos_iff,Bool.or_eq_true,Bool.not_eq_true',lessAt,decide_eq_false_iff_not,Nat.not_lt_zero,false_or,not_false_eq_true,true_and]
  constructor
  · rintro ⟨h1,⟨i,hi,h2,h3⟩,h4⟩
    refine ⟨fun j hj => ?_,i,hi,h2,h3⟩
    cases ho : outS set j with
    | true => exact .inl rfl
    | false =>
      right
      have h1 := h1 j hj
      rw [ho] at h1
      simp only [true_and] at h1
      rcases h4 with h4 | h4
      · by_cases hl : pos w j (o.getD j 0) < pos w j (d.getD j 0)
        · exact .inl hl
        · exact .inr ⟨by omega,h4⟩
      · left
        have h5 : (List.range w.length).countP (fun i => !outS set i && !decide (pos w i (o.getD i 0) < pos w i (d.getD i 0))) = 0 := by
          omega
        rw [List.countP_eq_zero] at h5
        have := h5 j (List.mem_range.2 hj)
        rw [ho] at this
        simpa using this
  · rintro ⟨h1,i,hi,h2,h3⟩
    refine ⟨fun j hj => ?_,⟨i,hi,h2,h3⟩,?_⟩
    · rintro ⟨ho,h5⟩
      rcases h1 j hj with h | h | ⟨h,-⟩
      · rw [ho] at h; cases h
      · omega
      · omega
    · cases strong with
      | false => exact .inl rfl
      | true =>
        right
        have h5 : (List.range w.length).countP (fun i => !outS set i && !decide (pos w i (o.getD i 0) < pos w i (d.getD i 0))) = 0 := by
          rw [List.countP_eq_zero]
          intro j hj
          rcases h1 j (List.mem_range.1 hj) with h | h | ⟨-,h⟩
          · rw [h]; simp
          · rw [decide_eq_true h]; simp
          · cases h
        omega
end Go.Abs.Sp
namespace Go.Abs.Sp
theorem full_set {n : Nat} (hn : n ≤ 6) : isSet (fullS n) ∧ (∀ j : Nat,n ≤ j → j < 6 → has (fullS n) j = false) ∧ ∀ j : Nat,j < n → outS (fullS n) j = false := by
  have h := full_dec n (by omega)
  refine ⟨h.1,fun j h1 h2 => ?_,fun j hj => ?_⟩
  · unfold fullS; rw [h.2 j h2,decide_eq_false (by omega)]
  · unfold outS fullS; rw [bit_zero h.1 (by omega),h.2 j (by omega),decide_eq_true hj]; rfl
theorem waste_iff {w : List (List Int)} {d o : List Int} (hn : w.length ≤ 6) : blkP w d (fullS w.length) false o = true ↔ (∀ i : Nat,i < w.length → pos w i (o.getD i 0) ≤ pos w i (d.getD i 0)) ∧ ∃ i : Nat,i < w.length ∧ pos w i (o.getD i 0) < pos w i (d.getD i 0) := by
  obtain ⟨h1,h2,h3⟩ := full_set hn
  rw [blk_ok hn h1 h2,Bool.false_or,Bool.and_eq_true]
  unfold okFrom someFrom
  simp only [List.all_eq_true,List.any_eq_true,List.mem_range,Bool.or_eq_true,Bool.and_eq_true,decide_eq_true_eq,beq_iff_eq,Nat.not_lt_zero,decide_false,Bool.not_false,Bool.false_eq_true,false_or,true_and,and_true]
  constructor
  · rintro ⟨h4,i,hi,h5,h6⟩
    refine ⟨fun j hj => ?_,i,hi,h6⟩
    rcases h4 j hj with h | h | h
    · rw [h3 j hj] at h; cases h
    · omega
    · omega
  · rintro ⟨h4,i,hi,h5⟩
    refine ⟨fun j hj => ?_,i,hi,by rw [h3 i hi]; rfl,h5⟩
    have := h4 j hj
    by_cases h : pos w j (o.getD j 0) < pos w j (d.getD j 0)
    · exact .inr (.inl h)
    · exact .inr (.inr (by omega))
end Go.Abs.Sp
