/- What the functions compute: plain definitions. -/
import Derived.Test.YtlonaefihjdkpaaAP
namespace Go.Abs.Sp
open AVal
def shl1 (x : Int) : Int := IntKind.i64.wrap (1 * 2 ^ min x.toNat IntKind.i64.bits)
def bitAt (x y : Int) : Int := bitsI .and .i64 (x.fdiv (2 ^ min y.toNat IntKind.i64.bits)) 1
def orI (x y : Int) : Int := bitsI .or .i64 x y
def allGo (n : Int) : Int → List Int → Bool
  | _,[] => true
  | met,x :: r => if x < 0 then false else if x ≥ n then false else if bitAt met x == 1 then false else allGo n (orI met (shl1 x)) r
def all (xs : List Int) (n : Int) : Bool := if allGo n 0 xs then (xs.length : Int) == n else false
def idx {α : Type} (p : α → Bool) : List α → Int
  | [] => -1
  | x :: r => if p x then 0 else if idx p r < 0 then -1 else idx p r + 1
theorem idx_lt {α : Type} (p : α → Bool) : ∀ xs : List α,-1 ≤ idx p xs ∧ idx p xs < xs.length
  | [] => by simp [idx]
  | x :: r => by
    have := idx_lt p r
    simp only [idx,List.length_cons]
    split
    · omega
    · split <;> omega
theorem idx_mid {α : Type} (p : α → Bool) : ∀ (pre : List α) (suf : List α),(∀ x ∈ pre,p x = false) → idx p (pre ++ suf) = if idx p suf < 0 then -1 else pre.length + idx p suf
  | [],suf,_ => by
    have := idx_lt p suf
    simp; intro; omega
  | a :: pre,suf,h => by
    have ih := idx_mid p pre suf fun x hx => h x (by simp [hx])
    simp only [List.cons_append,idx,h a (by simp),Bool.false_eq_true,if_false,ih,List.length_cons]
    have := idx_lt p suf
    split
    · simp
    · rw [if_neg (by omega)]; push_cast; omega
theorem idx_none {α : Type} {p : α → Bool} {pre : List α} (h : ∀ x ∈ pre,p x = false) : idx p pre = -1 := by
  have := idx_mid p pre [] h
  simpa [idx] using this
end Go.Abs.Sp
namespace Go.Abs.Sp
theorem idx_pos {α : Type} {p : α → Bool} : ∀ {xs : List α},(∃ x ∈ xs,p x = true) → 0 ≤ idx p xs
  | [],h => by obtain ⟨x,hx,_⟩ := h; cases hx
  | y :: r,h => by
    unfold idx
    by_cases hy : p y = true
    · rw [if_pos hy]; omega
    · rw [if_neg hy]
      obtain ⟨x,hx,hp⟩ := h
      have : ∃ x ∈ r,p x = true := by
        rcases List.mem_cons.1 hx with rfl | hx
        · exact absurd hp hy
        · exact ⟨x,hx,hp⟩
      have := idx_pos this
      rw [if_neg (by omega)]; omega
end Go.Abs.Sp
namespace Go.Abs.Sp
end Go.Abs.Sp
