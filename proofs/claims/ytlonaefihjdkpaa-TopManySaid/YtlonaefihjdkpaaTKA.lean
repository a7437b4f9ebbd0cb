/- The code of some functions of the program,cleaned: printed by a program of mine,checked here. -/
import Derived.Test.YtlonaefihjdkpaaProg
import Derived.Test.YtlonaefihjdkpaaAS
import Derived.KernelRfl
namespace Go.Proofs.Ytlonaefihjdkpaa
open Go.Abs AVal
variable {x : Cx} {Q : QT} {ks : List Kont} {fr : Fr} {H : AHeap} {ms : List Nat}
theorem mixed : Try.prog.follows .mixedOrders = true := by kernel_rfl
abbrev b6 : ICode :=
  (.seq (.ops [⟨some 2,(.mv (.k nilSl)),none⟩])
  (.seq (.seq (.ops [⟨some 3,(.mv (.t 0)),none⟩,⟨some 4,(.eqnil false (.t 3)),none⟩])
  (.cond (.t 4)
    (.seq (.ops [⟨some 2,(.mv (.k nilSl)),none⟩])
    .ret)
    .skip))
  (.seq (.ops [⟨some 5,(.bslice 1 0 [(I 0)] []),none⟩,⟨some 6,(.mv (.t 0)),none⟩,⟨some 7,(.append 1 8 (.t 5) (.t 6)),none⟩,⟨some 2,(.mv (.t 7)),none⟩])
  .ret)))
def c6 : ICode := b6
theorem w6 : W x Q c6 ks fr H ms = W x Q b6 ks fr H ms := rfl
def r6 : List IRes := [(.tmp 2)]
theorem t6 : Try.f6.body.bind (trCode Try.prog Try.f6.ntmps) = some (strip c6) := by kernel_rfl
theorem q6 : trRes Try.prog Try.f6.results.toList = some r6 := by kernel_rfl
theorem fn6 : Try.prog.funcs[6]? = some Try.f6 := by kernel_rfl
theorem nn6 : (Try.f6.name == "runtime.NumGoroutine") = false := by kernel_rfl
theorem nt6 : Try.f6.ntmps = 8 := by kernel_rfl
/- live: [3,6,7,8] -/
/- live: [0,1,12,13] -/
/- live: [1,2,9,10,11] -/
/- live: [0,13,14,15] -/
/- live: [1,5,7,8,11,12,13,17,18,19] -/
/- live: [1,5,11,12,13] -/
/- live: [1,7,8,9] -/
abbrev b77T1 : ICode :=
  (.keep [3] (.seq (.ops [⟨some 24,(.mv (.t 3)),none⟩,⟨some 2,(.mv (.t 24)),none⟩])
  .ret))
def c77T1 : ICode := b77T1
theorem w77T1 : W x Q c77T1 ks fr H ms = W x Q b77T1 ks fr H ms := rfl
/- live: [0,3,4] -/
abbrev b77L0 : ICode :=
  (.seq (.seq (.ops [⟨some 12,(.mv (.t 4)),none⟩,⟨some 13,(.mv (.t 0)),none⟩,⟨some 14,(.len (.t 13)),none⟩,⟨some 15,(.bin .lss (.t 12) (.t 14)),none⟩])
  (.cond (.t 15)
    .skip
    (.exit 0)))
  (.seq (.block 1 (.ops [⟨some 18,(.mv (.t 3)),none⟩,⟨some 19,(.mv (.t 0)),none⟩,⟨some 20,(.mv (.t 4)),none⟩,⟨some 21,(.ixS 1 (.t 19) (.t 20)),none⟩,⟨some 22,(.load false 1 (.t 21)),none⟩,⟨some 23,(.mn (.t 18) (.t 22)),none⟩,⟨some 3,(.mv (.t 23)),none⟩]))
  (.ops [⟨some 16,(.mv (.t 4)),none⟩,⟨some 17,(.bin .add (.t 16) (.k (I 1))),none⟩,⟨some 4,(.mv (.t 17)),none⟩])))
def c77L0 : ICode := b77L0
theorem w77L0 : W x Q c77L0 ks fr H ms = W x Q b77L0 ks fr H ms := rfl
abbrev b77 : ICode :=
  (.seq (.ops [⟨some 2,(.mv (.k (I 0))),none⟩])
  (.seq (.seq (.ops [⟨some 5,(.mv (.t 0)),none⟩,⟨some 6,(.len (.t 5)),none⟩,⟨some 7,(.bin .lss (.t 6) (.k (I 1))),none⟩])
  (.cond (.t 7)
    .no
    .skip))
  (.seq (.ops [⟨some 9,(.mv (.t 0)),none⟩,⟨some 10,(.ixS 1 (.t 9) (.k (I 0))),none⟩,⟨some 11,(.load false 1 (.t 10)),none⟩,⟨some 3,(.mv (.t 11)),none⟩])
  (.seq (.seq (.ops [⟨some 4,(.mv (.k (I 1))),none⟩])
  (.block 0 (.loop c77L0)))
  c77T1))))
def c77 : ICode := b77
theorem w77 : W x Q c77 ks fr H ms = W x Q b77 ks fr H ms := rfl
def r77 : List IRes := [(.tmp 2)]
theorem t77 : Try.f77.body.bind (trCode Try.prog Try.f77.ntmps) = some (strip c77) := by kernel_rfl
theorem q77 : trRes Try.prog Try.f77.results.toList = some r77 := by kernel_rfl
theorem fn77 : Try.prog.funcs[77]? = some Try.f77 := by kernel_rfl
theorem nn77 : (Try.f77.name == "runtime.NumGoroutine") = false := by kernel_rfl
theorem nt77 : Try.f77.ntmps = 25 := by kernel_rfl
abbrev b78T1 : ICode :=
  (.keep [3] (.seq (.ops [⟨some 24,(.mv (.t 3)),none⟩,⟨some 2,(.mv (.t 24)),none⟩])
  .ret))
def c78T1 : ICode := b78T1
theorem w78T1 : W x Q c78T1 ks fr H ms = W x Q b78T1 ks fr H ms := rfl
/- live: [0,3,4] -/
abbrev b78L0 : ICode :=
  (.seq (.seq (.ops [⟨some 12,(.mv (.t 4)),none⟩,⟨some 13,(.mv (.t 0)),none⟩,⟨some 14,(.len (.t 13)),none⟩,⟨some 15,(.bin .lss (.t 12) (.t 14)),none⟩])
  (.cond (.t 15)
    .skip
    (.exit 0)))
  (.seq (.block 1 (.ops [⟨some 18,(.mv (.t 3)),none⟩,⟨some 19,(.mv (.t 0)),none⟩,⟨some 20,(.mv (.t 4)),none⟩,⟨some 21,(.ixS 1 (.t 19) (.t 20)),none⟩,⟨some 22,(.load false 1 (.t 21)),none⟩,⟨some 23,(.mx (.t 18) (.t 22)),none⟩,⟨some 3,(.mv (.t 23)),none⟩]))
  (.ops [⟨some 16,(.mv (.t 4)),none⟩,⟨some 17,(.bin .add (.t 16) (.k (I 1))),none⟩,⟨some 4,(.mv (.t 17)),none⟩])))
def c78L0 : ICode := b78L0
theorem w78L0 : W x Q c78L0 ks fr H ms = W x Q b78L0 ks fr H ms := rfl
abbrev b78 : ICode :=
  (.seq (.ops [⟨some 2,(.mv (.k (I 0))),none⟩])
  (.seq (.seq (.ops [⟨some 5,(.mv (.t 0)),none⟩,⟨some 6,(.len (.t 5)),none⟩,⟨some 7,(.bin .lss (.t 6) (.k (I 1))),none⟩])
  (.cond (.t 7)
    .no
    .skip))
  (.seq (.ops [⟨some 9,(.mv (.t 0)),none⟩,⟨some 10,(.ixS 1 (.t 9) (.k (I 0))),none⟩,⟨some 11,(.load false 1 (.t 10)),none⟩,⟨some 3,(.mv (.t 11)),none⟩])
  (.seq (.seq (.ops [⟨some 4,(.mv (.k (I 1))),none⟩])
  (.block 0 (.loop c78L0)))
  c78T1))))
def c78 : ICode := b78
theorem w78 : W x Q c78 ks fr H ms = W x Q b78 ks fr H ms := rfl
def r78 : List IRes := [(.tmp 2)]
theorem t78 : Try.f78.body.bind (trCode Try.prog Try.f78.ntmps) = some (strip c78) := by kernel_rfl
theorem q78 : trRes Try.prog Try.f78.results.toList = some r78 := by kernel_rfl
theorem fn78 : Try.prog.funcs[78]? = some Try.f78 := by kernel_rfl
theorem nn78 : (Try.f78.name == "runtime.NumGoroutine") = false := by kernel_rfl
theorem nt78 : Try.f78.ntmps = 25 := by kernel_rfl
abbrev b82 : ICode :=
  (.seq (.ops [⟨some 2,(.alloc [(I 0),(I 0),(I 0),(I 0)]),none⟩])
  (.seq (.ops [⟨some 3,(.alloc [(I 0),(I 0),(I 0),(I 0)]),none⟩])
  (.seq (.ops [⟨some 4,(.slP 4 1 (.t 3) none none),none⟩,⟨some 5,(.mv (.t 0)),none⟩,⟨some 6,(.copy 1 (.t 4) (.t 5)),none⟩])
  (.seq (.ops [⟨some 7,(.load true 4 (.t 3)),none⟩,⟨none,(.store 4 (.t 2) (.t 7)),none⟩])
  .ret))))
def c82 : ICode := b82
theorem w82 : W x Q c82 ks fr H ms = W x Q b82 ks fr H ms := rfl
def r82 : List IRes := [(.cell true 4 2)]
theorem t82 : Try.f82.body.bind (trCode Try.prog Try.f82.ntmps) = some (strip c82) := by kernel_rfl
theorem q82 : trRes Try.prog Try.f82.results.toList = some r82 := by kernel_rfl
theorem fn82 : Try.prog.funcs[82]? = some Try.f82 := by kernel_rfl
theorem nn82 : (Try.f82.name == "runtime.NumGoroutine") = false := by kernel_rfl
theorem nt82 : Try.f82.ntmps = 8 := by kernel_rfl
abbrev b53T1 : ICode :=
  (.keep [2,4] (.seq (.ops [⟨some 61,(.load true 2 (.t 4)),none⟩,⟨none,(.store 2 (.t 2) (.t 61)),none⟩,⟨some 3,(.mv (.k (B true))),none⟩])
  .ret))
def c53T1 : ICode := b53T1
theorem w53T1 : W x Q c53T1 ks fr H ms = W x Q b53T1 ks fr H ms := rfl
/- live: [2,4,21,22,23] -/
abbrev b53L0 : ICode :=
  (.seq (.ops [⟨some 24,(.bin .lss (.t 23) (.t 22)),none⟩])
  (.seq (.cond (.t 24)
    .skip
    (.exit 0))
  (.seq (.block 1 (.seq (.ops [⟨some 25,(.ixS 1 (.t 21) (.t 23)),none⟩,⟨some 26,(.load false 1 (.t 25)),none⟩,⟨some 6,(.mv (.t 26)),none⟩])
  (.seq (.seq (.ops [⟨some 27,(.mv (.t 6)),none⟩,⟨some 28,(.len (.t 27)),none⟩,⟨some 29,(.fldA 1 (.t 4)),none⟩,⟨some 30,(.load false 1 (.t 29)),none⟩,⟨some 31,(.bin .neq (.t 28) (.t 30)),none⟩,⟨some 32,(.mv (.t 31)),none⟩,⟨some 33,(.fldA 1 (.t 4)),some (32,false)⟩,⟨some 34,(.load false 1 (.t 33)),some (32,false)⟩,⟨some 35,(.bin .lss (.t 34) (.k (I 1))),some (32,false)⟩,⟨some 36,(.pick (.t 32) (.k (B true)) (.t 35)),none⟩,⟨some 37,(.mv (.t 36)),none⟩,⟨some 38,(.fldA 1 (.t 4)),some (37,false)⟩,⟨some 39,(.load false 1 (.t 38)),some (37,false)⟩,⟨some 40,(.bin .gtr (.t 39) (.k (I 4))),some (37,false)⟩,⟨some 41,(.pick (.t 37) (.k (B true)) (.t 40)),none⟩,⟨some 42,(.mv (.t 41)),none⟩,⟨some 43,(.mv (.t 6)),some (42,false)⟩,⟨some 44,(.call (.k (.fn (.func 77) [] [])) [(.t 43)]),some (42,false)⟩,⟨some 45,(.bin .lss (.t 44) (.k (I (-2)))),some (42,false)⟩,⟨some 46,(.pick (.t 42) (.k (B true)) (.t 45)),none⟩,⟨some 47,(.mv (.t 46)),none⟩,⟨some 48,(.mv (.t 6)),some (47,false)⟩,⟨some 49,(.call (.k (.fn (.func 78) [] [])) [(.t 48)]),some (47,false)⟩,⟨some 50,(.bin .gtr (.t 49) (.k (I 2))),some (47,false)⟩,⟨some 51,(.pick (.t 47) (.k (B true)) (.t 50)),none⟩])
  (.cond (.t 51)
    (.seq (.ops [⟨some 52,(.load true 2 (.t 4)),none⟩,⟨none,(.store 2 (.t 2) (.t 52)),none⟩,⟨some 3,(.mv (.k (B false))),none⟩])
    .ret)
    .skip))
  (.draw 2 [] (.early 1 ⟨some 53,(.fldA 0 (.t 4)),none⟩
    (.early 1 ⟨some 54,(.load false 1 (.t 53)),none⟩
    (.early 1 ⟨some 55,(.mv (.t 6)),none⟩
    (.early 1 ⟨some 56,(.call (.k (.fn (.func 82) [] [])) [(.t 55)]),none⟩
    (.step 0 1 ⟨some 57,(.bslice 4 1 [(I 0),(I 0),(I 0),(I 0)] [(0,4,(.t 56))]),none⟩
    (.step 1 0 ⟨some 58,(.append 4 32 (.t 54) (.t 57)),none⟩
    (.early 0 ⟨some 59,(.fldA 0 (.t 4)),none⟩
    (.step 2 0 ⟨none,(.store 1 (.t 59) (.t 58)),none⟩
    .done))))))))))))
  (.ops [⟨some 60,(.bin .add (.t 23) (.k (I 1))),none⟩,⟨some 23,(.mv (.t 60)),none⟩]))))
def c53L0 : ICode := b53L0
theorem w53L0 : W x Q c53L0 ks fr H ms = W x Q b53L0 ks fr H ms := rfl
abbrev b53 : ICode :=
  (.seq (.ops [⟨some 2,(.alloc [nilSl,(I 0)]),none⟩,⟨some 3,(.mv (.k (B false))),none⟩])
  (.seq (.ops [⟨some 4,(.alloc [nilSl,(I 0)]),none⟩])
  (.seq (.seq (.ops [⟨some 7,(.mv (.t 0)),none⟩,⟨some 8,(.len (.t 7)),none⟩,⟨some 9,(.bin .lss (.t 8) (.k (I 1))),none⟩,⟨some 10,(.mv (.t 9)),none⟩,⟨some 11,(.mv (.t 0)),some (10,false)⟩,⟨some 12,(.len (.t 11)),some (10,false)⟩,⟨some 13,(.bin .gtr (.t 12) (.k (I 2))),some (10,false)⟩,⟨some 14,(.pick (.t 10) (.k (B true)) (.t 13)),none⟩])
  (.cond (.t 14)
    (.seq (.ops [⟨some 15,(.load true 2 (.t 4)),none⟩,⟨none,(.store 2 (.t 2) (.t 15)),none⟩,⟨some 3,(.mv (.k (B false))),none⟩])
    .ret)
    .skip))
  (.seq (.ops [⟨some 16,(.mv (.t 0)),none⟩,⟨some 17,(.ixS 1 (.t 16) (.k (I 0))),none⟩,⟨some 18,(.load false 1 (.t 17)),none⟩,⟨some 19,(.len (.t 18)),none⟩,⟨some 20,(.fldA 1 (.t 4)),none⟩,⟨none,(.store 1 (.t 20) (.t 19)),none⟩])
  (.seq (.seq (.ops [⟨some 21,(.mv (.t 0)),none⟩,⟨some 22,(.len (.t 21)),none⟩,⟨some 23,(.mv (.k (I 0))),none⟩])
  (.block 0 (.loop c53L0)))
  c53T1)))))
def c53 : ICode := b53
theorem w53 : W x Q c53 ks fr H ms = W x Q b53 ks fr H ms := rfl
def r53 : List IRes := [(.cell true 2 2),(.tmp 3)]
theorem t53 : Try.f53.body.bind (trCode Try.prog Try.f53.ntmps) = some (strip c53) := by kernel_rfl
theorem q53 : trRes Try.prog Try.f53.results.toList = some r53 := by kernel_rfl
theorem fn53 : Try.prog.funcs[53]? = some Try.f53 := by kernel_rfl
theorem nn53 : (Try.f53.name == "runtime.NumGoroutine") = false := by kernel_rfl
theorem nt53 : Try.f53.ntmps = 62 := by kernel_rfl
abbrev b54 : ICode :=
  (.seq (.ops [⟨some 4,(.box (.t 0)),none⟩,⟨some 8,(.alloc [(I 0),(I 0),(I 0),(I 0)]),none⟩,⟨some 9,(.mv (.k (B false))),none⟩])
  (.seq (.seq (.ops [⟨some 10,(.mv (.t 1)),none⟩,⟨some 11,(.len (.t 10)),none⟩,⟨some 12,(.fldA 1 (.t 4)),none⟩,⟨some 13,(.load false 1 (.t 12)),none⟩,⟨some 14,(.bin .neq (.t 11) (.t 13)),none⟩,⟨some 15,(.mv (.t 14)),none⟩,⟨some 16,(.mv (.t 1)),some (15,false)⟩,⟨some 17,(.call (.k (.fn (.func 77) [] [])) [(.t 16)]),some (15,false)⟩,⟨some 18,(.mv (.t 2)),some (15,false)⟩,⟨some 19,(.bin .lss (.t 17) (.t 18)),some (15,false)⟩,⟨some 20,(.pick (.t 15) (.k (B true)) (.t 19)),none⟩,⟨some 21,(.mv (.t 20)),none⟩,⟨some 22,(.mv (.t 1)),some (21,false)⟩,⟨some 23,(.call (.k (.fn (.func 78) [] [])) [(.t 22)]),some (21,false)⟩,⟨some 24,(.mv (.t 3)),some (21,false)⟩,⟨some 25,(.bin .gtr (.t 23) (.t 24)),some (21,false)⟩,⟨some 26,(.pick (.t 21) (.k (B true)) (.t 25)),none⟩])
  (.cond (.t 26)
    (.seq (.ops [⟨some 27,(.build [(I 0),(I 0),(I 0),(I 0)] []),none⟩,⟨none,(.store 4 (.t 8) (.t 27)),none⟩,⟨some 9,(.mv (.k (B false))),none⟩])
    .ret)
    .skip))
  (.seq (.ops [⟨some 28,(.mv (.t 1)),none⟩,⟨some 29,(.call (.k (.fn (.func 82) [] [])) [(.t 28)]),none⟩,⟨none,(.store 4 (.t 8) (.t 29)),none⟩,⟨some 9,(.mv (.k (B true))),none⟩])
  .ret)))
def c54 : ICode := b54
theorem w54 : W x Q c54 ks fr H ms = W x Q b54 ks fr H ms := rfl
def r54 : List IRes := [(.cell true 4 8),(.tmp 9)]
theorem t54 : Try.f54.body.bind (trCode Try.prog Try.f54.ntmps) = some (strip c54) := by kernel_rfl
theorem q54 : trRes Try.prog Try.f54.results.toList = some r54 := by kernel_rfl
theorem fn54 : Try.prog.funcs[54]? = some Try.f54 := by kernel_rfl
theorem nn54 : (Try.f54.name == "runtime.NumGoroutine") = false := by kernel_rfl
theorem nt54 : Try.f54.ntmps = 30 := by kernel_rfl
abbrev b130T1 : ICode :=
  (.keep [5] (.seq (.ops [⟨some 20,(.mv (.t 5)),none⟩,⟨some 4,(.mv (.t 20)),none⟩])
  .ret))
def c130T1 : ICode := b130T1
theorem w130T1 : W x Q c130T1 ks fr H ms = W x Q b130T1 ks fr H ms := rfl
/- live: [2,3,5,7] -/
abbrev b130L0 : ICode :=
  (.seq (.ops [⟨some 8,(.bin .lss (.t 7) (.k (I 4))),none⟩])
  (.seq (.cond (.t 8)
    .skip
    (.exit 0))
  (.seq (.block 1 (.seq (.ops [⟨some 9,(.mv (.t 7)),none⟩,⟨some 6,(.mv (.t 9)),none⟩])
  (.draw 0 [] (.early 1 ⟨some 10,(.mv (.t 5)),none⟩
    (.early 1 ⟨some 11,(.mv (.t 6)),none⟩
    (.early 1 ⟨some 12,(.ixP 4 1 (.t 2) (.t 11)),none⟩
    (.early 1 ⟨some 13,(.load false 1 (.t 12)),none⟩
    (.early 1 ⟨some 14,(.mv (.t 6)),none⟩
    (.early 1 ⟨some 15,(.ixP 4 1 (.t 3) (.t 14)),none⟩
    (.early 1 ⟨some 16,(.load false 1 (.t 15)),none⟩
    (.early 1 ⟨some 17,(.bin .mul (.t 13) (.t 16)),none⟩
    (.early 0 ⟨some 18,(.bin .add (.t 10) (.t 17)),none⟩
    (.early 0 ⟨some 5,(.mv (.t 18)),none⟩
    .done)))))))))))))
  (.ops [⟨some 19,(.bin .add (.t 7) (.k (I 1))),none⟩,⟨some 7,(.mv (.t 19)),none⟩]))))
def c130L0 : ICode := b130L0
theorem w130L0 : W x Q c130L0 ks fr H ms = W x Q b130L0 ks fr H ms := rfl
abbrev b130 : ICode :=
  (.seq (.ops [⟨some 2,(.box (.t 0)),none⟩,⟨some 3,(.box (.t 1)),none⟩,⟨some 4,(.mv (.k (I 0))),none⟩])
  (.seq (.ops [⟨some 5,(.mv (.k (I 0))),none⟩])
  (.seq (.seq (.ops [⟨some 7,(.mv (.k (I 0))),none⟩])
  (.block 0 (.loop c130L0)))
  c130T1)))
def c130 : ICode := b130
theorem w130 : W x Q c130 ks fr H ms = W x Q b130 ks fr H ms := rfl
def r130 : List IRes := [(.tmp 4)]
theorem t130 : Try.f130.body.bind (trCode Try.prog Try.f130.ntmps) = some (strip c130) := by kernel_rfl
theorem q130 : trRes Try.prog Try.f130.results.toList = some r130 := by kernel_rfl
theorem fn130 : Try.prog.funcs[130]? = some Try.f130 := by kernel_rfl
theorem nn130 : (Try.f130.name == "runtime.NumGoroutine") = false := by kernel_rfl
theorem nt130 : Try.f130.ntmps = 21 := by kernel_rfl
/- live: [3,5,9,10,11] -/
abbrev b87 : ICode :=
  (.seq (.ops [⟨some 2,(.mv (.k (I 0))),none⟩])
  (.seq (.ops [⟨some 3,(.mv (.t 0)),none⟩,⟨some 4,(.mv (.t 0)),none⟩,⟨some 5,(.un .neg (.t 4)),none⟩,⟨some 6,(.mx (.t 3) (.t 5)),none⟩,⟨some 2,(.mv (.t 6)),none⟩])
  .ret))
def c87 : ICode := b87
theorem w87 : W x Q c87 ks fr H ms = W x Q b87 ks fr H ms := rfl
def r87 : List IRes := [(.tmp 2)]
theorem t87 : Try.f87.body.bind (trCode Try.prog Try.f87.ntmps) = some (strip c87) := by kernel_rfl
theorem q87 : trRes Try.prog Try.f87.results.toList = some r87 := by kernel_rfl
theorem fn87 : Try.prog.funcs[87]? = some Try.f87 := by kernel_rfl
theorem nn87 : (Try.f87.name == "runtime.NumGoroutine") = false := by kernel_rfl
theorem nt87 : Try.f87.ntmps = 7 := by kernel_rfl
abbrev b90T1 : ICode :=
  (.keep [] (.seq (.ops [⟨some 4,(.mv (.k (B true))),none⟩])
  .ret))
def c90T1 : ICode := b90T1
theorem w90T1 : W x Q c90T1 ks fr H ms = W x Q b90T1 ks fr H ms := rfl
/- live: [2,3,6] -/
abbrev b90L0 : ICode :=
  (.seq (.ops [⟨some 7,(.bin .lss (.t 6) (.k (I 4))),none⟩])
  (.seq (.cond (.t 7)
    .skip
    (.exit 0))
  (.seq (.block 1 (.seq (.ops [⟨some 8,(.mv (.t 6)),none⟩,⟨some 5,(.mv (.t 8)),none⟩])
  (.seq (.draw 0 [] (.early 0 ⟨some 9,(.mv (.t 5)),none⟩
    (.early 0 ⟨some 10,(.ixP 4 1 (.t 2) (.t 9)),none⟩
    (.early 0 ⟨some 11,(.load false 1 (.t 10)),none⟩
    (.early 0 ⟨some 12,(.bin .neq (.t 11) (.k (I 0))),none⟩
    (.early 0 ⟨some 13,(.mv (.t 12)),none⟩
    (.early 1 ⟨some 14,(.mv (.t 5)),some (13,true)⟩
    (.early 1 ⟨some 15,(.ixP 4 1 (.t 2) (.t 14)),some (13,true)⟩
    (.early 1 ⟨some 16,(.load false 1 (.t 15)),some (13,true)⟩
    (.early 1 ⟨some 17,(.bin .gtr (.t 16) (.k (I 0))),some (13,true)⟩
    (.early 1 ⟨some 18,(.mv (.t 5)),some (13,true)⟩
    (.early 1 ⟨some 19,(.ixP 4 1 (.t 3) (.t 18)),some (13,true)⟩
    (.early 1 ⟨some 20,(.load false 1 (.t 19)),some (13,true)⟩
    (.early 1 ⟨some 21,(.bin .gtr (.t 20) (.k (I 0))),some (13,true)⟩
    (.early 0 ⟨some 22,(.eqb true (.t 17) (.t 21)),some (13,true)⟩
    (.early 0 ⟨some 23,(.mv (.t 22)),some (13,true)⟩
    (.early 1 ⟨some 24,(.mv (.t 5)),some (23,false)⟩
    (.early 1 ⟨some 25,(.ixP 4 1 (.t 2) (.t 24)),some (23,false)⟩
    (.early 1 ⟨some 26,(.load false 1 (.t 25)),some (23,false)⟩
    (.early 1 ⟨some 27,(.call (.k (.fn (.func 87) [] [])) [(.t 26)]),some (23,false)⟩
    (.early 1 ⟨some 28,(.mv (.t 5)),some (23,false)⟩
    (.early 1 ⟨some 29,(.ixP 4 1 (.t 3) (.t 28)),some (23,false)⟩
    (.early 1 ⟨some 30,(.load false 1 (.t 29)),some (23,false)⟩
    (.step 0 0 ⟨some 31,(.call (.k (.fn (.func 87) [] [])) [(.t 30)]),some (23,false)⟩
    (.early 0 ⟨some 32,(.bin .gtr (.t 27) (.t 31)),some (23,false)⟩
    (.early 0 ⟨some 33,(.pick (.t 23) (.k (B true)) (.t 32)),some (13,true)⟩
    (.early 0 ⟨some 34,(.pick (.t 13) (.t 33) (.k (B false))),none⟩
    .done)))))))))))))))))))))))))))
  (.keep [2,3,6,34] (.cond (.t 34)
    (.seq (.ops [⟨some 4,(.mv (.k (B false))),none⟩])
    .ret)
    .skip)))))
  (.ops [⟨some 35,(.bin .add (.t 6) (.k (I 1))),none⟩,⟨some 6,(.mv (.t 35)),none⟩]))))
def c90L0 : ICode := b90L0
theorem w90L0 : W x Q c90L0 ks fr H ms = W x Q b90L0 ks fr H ms := rfl
abbrev b90 : ICode :=
  (.seq (.ops [⟨some 2,(.box (.t 0)),none⟩,⟨some 3,(.box (.t 1)),none⟩,⟨some 4,(.mv (.k (B false))),none⟩])
  (.seq (.seq (.ops [⟨some 6,(.mv (.k (I 0))),none⟩])
  (.block 0 (.loop c90L0)))
  c90T1))
def c90 : ICode := b90
theorem w90 : W x Q c90 ks fr H ms = W x Q b90 ks fr H ms := rfl
def r90 : List IRes := [(.tmp 4)]
theorem t90 : Try.f90.body.bind (trCode Try.prog Try.f90.ntmps) = some (strip c90) := by kernel_rfl
theorem q90 : trRes Try.prog Try.f90.results.toList = some r90 := by kernel_rfl
theorem fn90 : Try.prog.funcs[90]? = some Try.f90 := by kernel_rfl
theorem nn90 : (Try.f90.name == "runtime.NumGoroutine") = false := by kernel_rfl
theorem nt90 : Try.f90.ntmps = 36 := by kernel_rfl
end Go.Proofs.Ytlonaefihjdkpaa
