/- The statement ConesBasic, all told. -/
import Derived.Test.YtipfjfmdjmaflaaMY
namespace Go.Proofs.Ytipfjfmdjmaflaa
open Go.Abs AVal
theorem law10 (a : List (List Int)) (ha : ∀ l ∈ a, l.length < 9223372036854775808) (hl : a.length < 9223372036854775808) :
    Abs.Spec Try.prog 10 [.sl false false (mS a)] [] fun v H' => H' = [] ∧ v = B true := s10 C50_ok a ha hl
end Go.Proofs.Ytipfjfmdjmaflaa
