/- The code of some functions of the program,cleaned: printed by a program of mine,checked here. -/
import Derived.Test.YtlonaefihjdkpaaProg
import Derived.Test.YtlonaefihjdkpaaAS
import Derived.Test.YtlonaefihjdkpaaTKA
import Derived.KernelRfl
namespace Go.Proofs.Ytlonaefihjdkpaa
open Go.Abs AVal
variable {x : Cx} {Q : QT} {ks : List Kont} {fr : Fr} {H : AHeap} {ms : List Nat}
abbrev b118T1 : ICode :=
  (.keep [3,6] (.seq (.ops [⟨some 22,(.load true 4 (.t 3)),none⟩,⟨none,(.store 4 (.t 6) (.t 22)),none⟩])
  .ret))
def c118T1 : ICode := b118T1
theorem w118T1 : W x Q c118T1 ks fr H ms = W x Q b118T1 ks fr H ms := rfl
/- live: [1,3,5,6,8] -/
abbrev b118L0 : ICode :=
  (.seq (.ops [⟨some 9,(.bin .lss (.t 8) (.k (I 4))),none⟩])
  (.seq (.cond (.t 9)
    .skip
    (.exit 0))
  (.seq (.block 1 (.seq (.ops [⟨some 10,(.mv (.t 8)),none⟩,⟨some 7,(.mv (.t 10)),none⟩])
  (.draw 0 [] (.early 1 ⟨some 11,(.mv (.t 7)),none⟩
    (.early 1 ⟨some 12,(.ixP 4 1 (.t 3) (.t 11)),none⟩
    (.early 1 ⟨some 13,(.load false 1 (.t 12)),none⟩
    (.early 1 ⟨some 14,(.mv (.t 1)),none⟩
    (.early 1 ⟨some 15,(.mv (.t 7)),none⟩
    (.early 1 ⟨some 16,(.ixP 4 1 (.t 5) (.t 15)),none⟩
    (.early 1 ⟨some 17,(.load false 1 (.t 16)),none⟩
    (.early 1 ⟨some 18,(.bin .mul (.t 14) (.t 17)),none⟩
    (.early 0 ⟨some 19,(.bin .add (.t 13) (.t 18)),none⟩
    (.early 0 ⟨some 20,(.ixP 4 1 (.t 3) (.t 11)),none⟩
    (.step 0 0 ⟨none,(.store 1 (.t 20) (.t 19)),none⟩
    .done))))))))))))))
  (.ops [⟨some 21,(.bin .add (.t 8) (.k (I 1))),none⟩,⟨some 8,(.mv (.t 21)),none⟩]))))
def c118L0 : ICode := b118L0
theorem w118L0 : W x Q c118L0 ks fr H ms = W x Q b118L0 ks fr H ms := rfl
abbrev b118 : ICode :=
  (.seq (.ops [⟨some 3,(.box (.t 0)),none⟩,⟨some 5,(.box (.t 2)),none⟩,⟨some 6,(.alloc [(I 0),(I 0),(I 0),(I 0)]),none⟩])
  (.seq (.seq (.ops [⟨some 8,(.mv (.k (I 0))),none⟩])
  (.block 0 (.loop c118L0)))
  c118T1))
def c118 : ICode := b118
theorem w118 : W x Q c118 ks fr H ms = W x Q b118 ks fr H ms := rfl
def r118 : List IRes := [(.cell true 4 6)]
theorem t118 : Try.f118.body.bind (trCode Try.prog Try.f118.ntmps) = some (strip c118) := by kernel_rfl
theorem q118 : trRes Try.prog Try.f118.results.toList = some r118 := by kernel_rfl
theorem fn118 : Try.prog.funcs[118]? = some Try.f118 := by kernel_rfl
theorem nn118 : (Try.f118.name == "runtime.NumGoroutine") = false := by kernel_rfl
theorem nt118 : Try.f118.ntmps = 23 := by kernel_rfl
end Go.Proofs.Ytlonaefihjdkpaa
