/- What the functions compute: plain definitions. -/
import Derived.Test.YtlonaefihjdkpaaAP
namespace Go.Abs.Sp
open AVal
def shl1 (x : Int) : Int := IntKind.i64.wrap (1 * 2 ^ min x.toNat IntKind.i64.bits)
def bitAt (x y : Int) : Int := bitsI .and .i64 (x.fdiv (2 ^ min y.toNat IntKind.i64.bits)) 1
def orI (x y : Int) : Int := bitsI .or .i64 x y
def isOrderGo (n : Int) : Int → List Int → Option Int
  | seen,[] => some seen
  | seen,x :: r => if x < 0 then none else if x ≥ n then none else isOrderGo n (orI seen (shl1 x)) r
def isOrder (xs : List Int) (n : Int) : Bool :=
  match isOrderGo n 0 xs with
  | none => false
  | some s => if (xs.length : Int) == n then s == IntKind.i64.wrap (shl1 n - 1) else false
def allGo (n : Int) : Int → List Int → Bool
  | _,[] => true
  | met,x :: r => if x < 0 then false else if x ≥ n then false else if bitAt met x == 1 then false else allGo n (orI met (shl1 x)) r
def all (xs : List Int) (n : Int) : Bool := if allGo n 0 xs then (xs.length : Int) == n else false
def idx {α : Type} (p : α → Bool) : List α → Int
  | [] => -1
  | x :: r => if p x then 0 else if idx p r < 0 then -1 else idx p r + 1
theorem idx_lt {α : Type} (p : α → Bool) : ∀ xs : List α,-1 ≤ idx p xs ∧ idx p xs < xs.length
  | [] => by simp [idx]
  | x :: r => by
    have := idx_lt p r
    simp only [idx,List.length_cons]
    split
    · omega
    · split <;> omega
end Go.Abs.Sp
namespace Go.Abs.Sp
theorem idx_pos {α : Type} {p : α → Bool} : ∀ {xs : List α},(∃ x ∈ xs,p x = true) → 0 ≤ idx p xs
  | [],h => by obtain ⟨x,hx,_⟩ := h; cases hx
  | y :: r,h => by
    unfold idx
    by_cases hy : p y = true
    · rw [if_pos hy]; omega
    · rw [if_neg hy]
      obtain ⟨x,hx,hp⟩ := h
      have : ∃ x ∈ r,p x = true := by
        rcases List.mem_cons.1 hx with rfl | hx
        · exact absurd hp hy
        · exact ⟨x,hx,hp⟩
      have := idx_pos this
      rw [if_neg (by omega)]; omega
def valid (w : List (List Int)) : Bool := if w.length ≥ 1 ∧ w.length ≤ 6 then !decide (idx (fun l => !isOrder l w.length) w ≥ 0) else false
end Go.Abs.Sp
namespace Go.Abs.Sp
def wishes (w : List (List Int)) : Bool := if w.all fun l => all l w.length then (if w.length ≥ 1 then decide (w.length ≤ 6) else false) else false
end Go.Abs.Sp
