/- The code of some functions of the program,cleaned: printed by a program of mine,checked here. -/
import Derived.Test.YtlonaefihjdkpaaProg
import Derived.Test.YtlonaefihjdkpaaAS
import Derived.KernelRfl
namespace Go.Proofs.Ytlonaefihjdkpaa
open Go.Abs AVal
theorem mixed : Try.prog.follows .mixedOrders = true := by kernel_rfl
def c6 : ICode :=
  (.seq (.ops [⟨(some 2),(.mv (.k nilSl)),none⟩])
  (.seq (.seq (.ops [⟨(some 3),(.mv (.t 0)),none⟩,
    ⟨(some 4),(.eqnil false (.t 3)),none⟩])
  (.cond (.t 4)
    (.seq (.ops [⟨(some 2),(.mv (.k nilSl)),none⟩])
    .ret)
    .skip))
  (.seq (.ops [⟨(some 5),(.bslice 1 0 [(I 0)] []),none⟩,
    ⟨(some 6),(.mv (.t 0)),none⟩,
    ⟨(some 7),(.append 1 8 (.t 5) (.t 6)),none⟩,
    ⟨(some 2),(.mv (.t 7)),none⟩])
  .ret)))
theorem w6 {x : Cx} {Q : QT} {ks : List Kont} {fr : Fr} {H : AHeap} {ms : List Nat} : W x Q c6 ks fr H ms = W x Q (.seq (.ops [⟨(some 2),(.mv (.k nilSl)),none⟩])
    (.seq (.seq (.ops [⟨(some 3),(.mv (.t 0)),none⟩,
      ⟨(some 4),(.eqnil false (.t 3)),none⟩])
    (.cond (.t 4)
      (.seq (.ops [⟨(some 2),(.mv (.k nilSl)),none⟩])
      .ret)
      .skip))
    (.seq (.ops [⟨(some 5),(.bslice 1 0 [(I 0)] []),none⟩,
      ⟨(some 6),(.mv (.t 0)),none⟩,
      ⟨(some 7),(.append 1 8 (.t 5) (.t 6)),none⟩,
      ⟨(some 2),(.mv (.t 7)),none⟩])
    .ret))) ks fr H ms := rfl
def r6 : List IRes := [(.tmp 2)]
theorem t6 : Try.f6.body.bind (trCode Try.prog Try.f6.ntmps) = some (strip c6) := by kernel_rfl
theorem q6 : trRes Try.prog Try.f6.results.toList = some r6 := by kernel_rfl
theorem fn6 : Try.prog.funcs[6]? = some Try.f6 := by kernel_rfl
theorem nn6 : (Try.f6.name == "runtime.NumGoroutine") = false := by kernel_rfl
theorem nt6 : Try.f6.ntmps = 8 := by kernel_rfl
/- live: [0,1,5,8,9,10] -/
/- live: [0,1,7,8] -/
/- live: [0,1,7,8] -/
/- live: [3,6,7,8] -/
/- live: [0,5,6,7] -/
/- live: [0,1,12,13] -/
/- live: [0,1,5,8,9,10] -/
/- live: [0,2,3,4,5,6,7,8,9,23,24,36,37] -/
/- live: [0,2,3,4,5,6,7,23,24] -/
/- live: [0,2,3,4,5,6] -/
/- live: [0,4,5,6,7,8,9,98,99,100] -/
/- live: [0,4,5,6,7,8,9,12,13,14,64,65,72,73] -/
/- live: [0,4,5,6,7,8,9,12,64,65] -/
/- live: [0,4,5,6,7,8,9,10,11,31,32] -/
/- live: [0,4,5,6,7,8,9,31,32] -/
/- live: [0,4,5,6,7,8] -/
end Go.Proofs.Ytlonaefihjdkpaa
