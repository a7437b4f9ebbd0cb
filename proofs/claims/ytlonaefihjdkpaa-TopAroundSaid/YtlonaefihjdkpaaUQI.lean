/- Swaps,plain: what they help,and the most. -/
import Derived.Test.YtlonaefihjdkpaaUQE
namespace Go.Proofs.Ytlonaefihjdkpaa
open Go.Abs AVal
set_option linter.unusedSimpArgs false
def setG (m : Int) (c : List Int) : Int := c.foldl (fun m x => Sp.orI m (Sp.shl1 x)) m
def setL (c : List Int) : Int := setG 0 c
def bump (now : List (List Int)) (h : Nat) (st : List (List Int) × Nat) : List (List Int) × Nat := if st.2 < h then (now,h) else st
def loopR : List (List Int) → Int → List (List Int) → Nat → List (List Int) × Nat → List (List Int) × Nat
  | [],_,_,_,st => st
  | c :: r,u,now,h,st => loopR r u now h (if and2 (setL c) u = 0 then loopR r (Sp.orI u (setL c)) (now ++ [c]) (h + c.length) (bump (now ++ [c]) (h + c.length) st) else st)
def swapsA (C : List (List Int)) : List (List Int) × Nat := loopR C 0 [] 0 ([],0)
end Go.Proofs.Ytlonaefihjdkpaa
