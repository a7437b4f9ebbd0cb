/- Small sets as numbers: what two have in common; powers of two. -/
import Derived.Test.YtlonaefihjdkpaaSP
namespace Go.Proofs.Ytlonaefihjdkpaa
open Go.Abs AVal
def and2 (x y : Int) : Int := bitsI .and .i64 x y
theorem two_pow6 {n : Nat} (h : n ≤ 6) : 1 ≤ 2 ^ n ∧ 2 ^ n ≤ 64 ∧ IntKind.i64.wrap (1 * 2 ^ min n 64) = ((2 ^ n : Nat) : Int) := by
  have : ∀ n : Nat,n < 7 → 1 ≤ 2 ^ n ∧ 2 ^ n ≤ 64 ∧ IntKind.i64.wrap (1 * 2 ^ min n 64) = ((2 ^ n : Nat) : Int) := by decide +kernel
  exact this n (by omega)
end Go.Proofs.Ytlonaefihjdkpaa
