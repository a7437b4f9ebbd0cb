/- The statement ConesSplits, all told. -/
import Derived.Test.YtipfjfmdjmaflaaMY
import Derived.Test.YtipfjfmdjmaflaaMU
namespace Go.Proofs.Ytipfjfmdjmaflaa
open Go.Abs AVal
theorem law12 (a : List (List Int)) (x : List Int) (l : List (List Int)) (ha : ∀ l ∈ a, l.length < 9223372036854775808) (hl : a.length < 9223372036854775808) (hx : x.length < 9223372036854775808) (hls : ∀ s ∈ l, s.length < 9223372036854775808) (hll : l.length < 9223372036854775808) :
    Abs.Spec Try.prog 12 [.sl false false (mS a), .sl false false (mI x), .sl false false (mS l)] [] fun v H' => H' = [] ∧ v = B true := s12 C50_ok a x l ha hl hx hls hll
end Go.Proofs.Ytipfjfmdjmaflaa
