/- The code of some functions of the program,cleaned: printed by a program of mine,checked here. -/
import Derived.Test.YtipfjfmdjmaflaaProg
import Derived.Test.YtipfjfmdjmaflaaAS
import Derived.Test.YtipfjfmdjmaflaaKA
import Derived.KernelRfl
namespace Go.Proofs.Ytipfjfmdjmaflaa
open Go.Abs AVal
variable {x : Cx} {Q : QT} {ks : List Kont} {fr : Fr} {H : AHeap} {ms : List Nat}
/- live: [6,8,9,10] -/
/- live: [8,10,11,12,34,35,36] -/
abbrev b73 : ICode :=
  (.seq (.ops [⟨some 3,(.box (.t 1)),none⟩,⟨some 4,(.mv (.k (B false))),none⟩])
  (.seq (.ops [⟨some 5,(.mv (.t 0)),none⟩,⟨some 6,(.load true 4 (.t 3)),none⟩,⟨some 7,(.call (.k (.fn (.func 107) [] [])) [(.t 5),(.t 6)]),none⟩,⟨some 8,(.bin .geq (.t 7) (.k (I 0))),none⟩,⟨some 4,(.mv (.t 8)),none⟩])
  .ret))
def c73 : ICode := b73
theorem w73 : W x Q c73 ks fr H ms = W x Q b73 ks fr H ms := rfl
def r73 : List IRes := [(.tmp 4)]
theorem t73 : Try.f73.body.bind (trCode Try.prog Try.f73.ntmps) = some (strip c73) := by kernel_rfl
theorem q73 : trRes Try.prog Try.f73.results.toList = some r73 := by kernel_rfl
theorem fn73 : Try.prog.funcs[73]? = some Try.f73 := by kernel_rfl
theorem nn73 : (Try.f73.name == "runtime.NumGoroutine") = false := by kernel_rfl
theorem nt73 : Try.f73.ntmps = 9 := by kernel_rfl
abbrev b107T1 : ICode :=
  (.keep [] (.seq (.ops [⟨some 4,(.mv (.k (I (-1)))),none⟩])
  .ret))
def c107T1 : ICode := b107T1
theorem w107T1 : W x Q c107T1 ks fr H ms = W x Q b107T1 ks fr H ms := rfl
/- live: [0,3,7,8] -/
abbrev b107L0 : ICode :=
  (.seq (.ops [⟨some 9,(.bin .lss (.t 8) (.t 7)),none⟩])
  (.seq (.cond (.t 9)
    .skip
    (.exit 0))
  (.seq (.block 1 (.seq (.ops [⟨some 10,(.mv (.t 8)),none⟩,⟨some 5,(.mv (.t 10)),none⟩])
  (.seq (.draw 0 [] (.early 1 ⟨some 11,(.load true 4 (.t 3)),none⟩
    (.early 1 ⟨some 12,(.mv (.t 0)),none⟩
    (.early 1 ⟨some 13,(.mv (.t 5)),none⟩
    (.early 1 ⟨some 14,(.ixS 4 (.t 12) (.t 13)),none⟩
    (.early 1 ⟨some 15,(.load true 4 (.t 14)),none⟩
    (.early 0 ⟨some 16,(.eqv false 4 (.t 11) (.t 15)),none⟩
    .done)))))))
  (.keep [0,3,5,7,8,16] (.cond (.t 16)
    (.seq (.ops [⟨some 17,(.mv (.t 5)),none⟩,⟨some 4,(.mv (.t 17)),none⟩])
    .ret)
    .skip)))))
  (.ops [⟨some 18,(.bin .add (.t 8) (.k (I 1))),none⟩,⟨some 8,(.mv (.t 18)),none⟩]))))
def c107L0 : ICode := b107L0
theorem w107L0 : W x Q c107L0 ks fr H ms = W x Q b107L0 ks fr H ms := rfl
abbrev b107 : ICode :=
  (.seq (.ops [⟨some 3,(.box (.t 1)),none⟩,⟨some 4,(.mv (.k (I 0))),none⟩])
  (.seq (.seq (.ops [⟨some 6,(.mv (.t 0)),none⟩,⟨some 7,(.len (.t 6)),none⟩,⟨some 8,(.mv (.k (I 0))),none⟩])
  (.block 0 (.loop c107L0)))
  c107T1))
def c107 : ICode := b107
theorem w107 : W x Q c107 ks fr H ms = W x Q b107 ks fr H ms := rfl
def r107 : List IRes := [(.tmp 4)]
theorem t107 : Try.f107.body.bind (trCode Try.prog Try.f107.ntmps) = some (strip c107) := by kernel_rfl
theorem q107 : trRes Try.prog Try.f107.results.toList = some r107 := by kernel_rfl
theorem fn107 : Try.prog.funcs[107]? = some Try.f107 := by kernel_rfl
theorem nn107 : (Try.f107.name == "runtime.NumGoroutine") = false := by kernel_rfl
theorem nt107 : Try.f107.ntmps = 19 := by kernel_rfl
end Go.Proofs.Ytipfjfmdjmaflaa
