/- The code of some functions of the program, cleaned: printed by a program of mine, checked here. -/
import Derived.Test.YtipfjfmdjmaflaaProg
import Derived.Test.YtipfjfmdjmaflaaAS
import Derived.Test.YtipfjfmdjmaflaaKA
import Derived.KernelRfl
namespace Go.Proofs.Ytipfjfmdjmaflaa
open Go.Abs AVal
variable {x : Cx} {Q : QT} {ks : List Kont} {fr : Fr} {H : AHeap} {ms : List Nat}
/- live: [0, 3, 5, 6, 36, 37, 38, 110, 111, 112] -/
/- live: [0, 3, 5, 6, 7, 8, 36, 37, 38, 69, 70, 71] -/
/- live: [0, 3, 36, 37, 38] -/
/- live: [0, 1, 2, 8, 13, 14, 79, 80, 81] -/
/- live: [0, 1, 2, 7, 10, 53, 54, 55] -/
/- live: [7, 94, 95, 96] -/
/- live: [0, 1, 7, 9, 48, 49, 50] -/
/- live: [0, 1, 5, 9, 10, 65, 66, 67, 88, 89, 90] -/
/- live: [0, 1, 5, 9, 10, 65, 66, 67] -/
abbrev b44 : ICode :=
  (.seq (.ops [⟨(some 4), (.mv (.k (B false))), none⟩])
  (.seq (.ops [⟨(some 5), (.mv (.t 0)), none⟩,
    ⟨(some 6), (.mv (.t 1)), none⟩,
    ⟨(some 7), (.call (.k (.fn (.func 88) [] [])) [(.t 5), (.t 6)]), none⟩,
    ⟨(some 8), (.bin .geq (.t 7) (.k (I 0))), none⟩,
    ⟨(some 4), (.mv (.t 8)), none⟩])
  .ret))
def c44 : ICode := b44
theorem w44 : W x Q c44 ks fr H ms = W x Q b44 ks fr H ms := rfl
def r44 : List IRes := [(.tmp 4)]
theorem t44 : Try.f44.body.bind (trCode Try.prog Try.f44.ntmps) = some (strip c44) := by kernel_rfl
theorem q44 : trRes Try.prog Try.f44.results.toList = some r44 := by kernel_rfl
theorem fn44 : Try.prog.funcs[44]? = some Try.f44 := by kernel_rfl
theorem nn44 : (Try.f44.name == "runtime.NumGoroutine") = false := by kernel_rfl
theorem nt44 : Try.f44.ntmps = 9 := by kernel_rfl
abbrev b88T1 : ICode :=
  (.keep [] (.seq (.ops [⟨(some 4), (.mv (.k (I (-1)))), none⟩])
  .ret))
def c88T1 : ICode := b88T1
theorem w88T1 : W x Q c88T1 ks fr H ms = W x Q b88T1 ks fr H ms := rfl
/- live: [0, 1, 7, 8] -/
abbrev b88L0 : ICode :=
  (.seq (.ops [⟨(some 9), (.bin .lss (.t 8) (.t 7)), none⟩])
  (.seq (.cond (.t 9)
    .skip
    (.exit 0))
  (.seq (.block 1 (.seq (.ops [⟨(some 10), (.mv (.t 8)), none⟩,
    ⟨(some 5), (.mv (.t 10)), none⟩])
  (.seq (.ops [⟨(some 11), (.mv (.t 1)), none⟩,
    ⟨(some 12), (.mv (.t 0)), none⟩,
    ⟨(some 13), (.mv (.t 5)), none⟩,
    ⟨(some 14), (.ixS 1 (.t 12) (.t 13)), none⟩,
    ⟨(some 15), (.load false 1 (.t 14)), none⟩,
    ⟨(some 16), (.call (.t 11) [(.t 15)]), none⟩])
  (.cond (.t 16)
    (.seq (.ops [⟨(some 17), (.mv (.t 5)), none⟩,
      ⟨(some 4), (.mv (.t 17)), none⟩])
    .ret)
    .skip))))
  (.ops [⟨(some 18), (.bin .add (.t 8) (.k (I 1))), none⟩,
    ⟨(some 8), (.mv (.t 18)), none⟩]))))
def c88L0 : ICode := b88L0
theorem w88L0 : W x Q c88L0 ks fr H ms = W x Q b88L0 ks fr H ms := rfl
abbrev b88 : ICode :=
  (.seq (.ops [⟨(some 4), (.mv (.k (I 0))), none⟩])
  (.seq (.seq (.ops [⟨(some 6), (.mv (.t 0)), none⟩,
    ⟨(some 7), (.len (.t 6)), none⟩,
    ⟨(some 8), (.mv (.k (I 0))), none⟩])
  (.block 0 (.loop c88L0)))
  c88T1))
def c88 : ICode := b88
theorem w88 : W x Q c88 ks fr H ms = W x Q b88 ks fr H ms := rfl
def r88 : List IRes := [(.tmp 4)]
theorem t88 : Try.f88.body.bind (trCode Try.prog Try.f88.ntmps) = some (strip c88) := by kernel_rfl
theorem q88 : trRes Try.prog Try.f88.results.toList = some r88 := by kernel_rfl
theorem fn88 : Try.prog.funcs[88]? = some Try.f88 := by kernel_rfl
theorem nn88 : (Try.f88.name == "runtime.NumGoroutine") = false := by kernel_rfl
theorem nt88 : Try.f88.ntmps = 19 := by kernel_rfl
/- live: [1, 2, 15, 16, 17] -/
end Go.Proofs.Ytipfjfmdjmaflaa
