/- Basic moves,plain: what the program's functions compute. -/
import Derived.Test.YtlonaefihjdkpaaKL
import Derived.Test.YtlonaefihjdkpaaSP
import Derived.Test.YtlonaefihjdkpaaAN
namespace Go.Abs
open AVal
section
variable {xs : List (List Int)}
end
end Go.Abs
namespace Go.Abs.Sp
def z4 : List Int := [0,0,0,0]
def dp : List Int → List Int → Int
  | x :: xs,y :: ys => x * y + dp xs ys
  | _,_ => 0
def ab (x : Int) : Int := if x < 0 then -x else x
def room (most : Int) (l : List Int) : Int := l.foldr (fun a s => ab a * most + s) 0
def canR (n i : Nat) (most : Int) (x r : List Int) : Bool := decide (ab (dp (r.take (min i n)) (x.take (min i n))) ≤ room most ((r.take n).drop i))
def can (rows : List (List Int)) (n i : Nat) (most : Int) (x : List Int) : Bool := rows.all (canR n i most x)
def size (x : List Int) : Int := ab (x.getD 0 0) + ab (x.getD 1 0) + ab (x.getD 2 0) + ab (x.getD 3 0)
end Go.Abs.Sp
namespace Go.Abs.Sp
end Go.Abs.Sp
