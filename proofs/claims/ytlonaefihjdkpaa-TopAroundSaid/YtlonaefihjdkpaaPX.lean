/- A list turned into another one from the front; For the reference's trading: the list of best cards,those who leave,what they take. -/
import Derived.Test.YtlonaefihjdkpaaPV
namespace Go.Abs.Sp
def part (X D : List Int) (i : Nat) : List Int := X.take i ++ D.drop i
end Go.Abs.Sp
namespace Go.Abs.Sp
open AVal
def pick (R : List Int) : List Int → Int
  | [] => 0
  | c :: r => if alive R c then c else pick R r
def upd (n : Nat) (P X D : List Int) : List Int := (List.range n).map fun j : Nat => if (j : Int) ∈ P then X.getD j 0 else D.getD j 0
end Go.Abs.Sp
