/- Vectors of four numbers: laws for walking,and what the functions compute. -/
import Derived.Test.YtlonaefihjdkpaaAG
namespace Go.Abs
open AVal
section
variable {xs pre suf : List (List Int)} {x : List Int}
end
end Go.Abs
namespace Go.Abs.Sp
open AVal
def minL : List Int → Int
  | [] => 0
  | x :: r => r.foldl (fun m y => if y < m then y else m) x
def maxL : List Int → Int
  | [] => 0
  | x :: r => r.foldl (fun m y => if y > m then y else m) x
def numbers (l : List Int) (lo hi : Int) : Bool := l.all fun x => decide (lo ≤ x) && decide (x ≤ hi)
end Go.Abs.Sp
namespace Go.Abs.Sp
end Go.Abs.Sp
