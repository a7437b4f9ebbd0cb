/- The code of some functions of the program,cleaned: printed by a program of mine,checked here. -/
import Derived.Test.YtipfjfmdjmaflaaProg
import Derived.Test.YtipfjfmdjmaflaaAS
import Derived.KernelRfl
namespace Go.Proofs.Ytipfjfmdjmaflaa
open Go.Abs AVal
variable {x : Cx} {Q : QT} {ks : List Kont} {fr : Fr} {H : AHeap} {ms : List Nat}
theorem mixed : Try.prog.follows .mixedOrders = true := by kernel_rfl
abbrev b38 : ICode :=
  (.seq (.ops [⟨some 2,(.mv (.k nilSl)),none⟩])
  (.seq (.seq (.ops [⟨some 3,(.mv (.t 0)),none⟩,⟨some 4,(.eqnil false (.t 3)),none⟩])
  (.cond (.t 4)
    (.seq (.ops [⟨some 2,(.mv (.k nilSl)),none⟩])
    .ret)
    .skip))
  (.seq (.ops [⟨some 5,(.bslice 1 0 [(I 0)] []),none⟩,⟨some 6,(.mv (.t 0)),none⟩,⟨some 7,(.append 1 8 (.t 5) (.t 6)),none⟩,⟨some 2,(.mv (.t 7)),none⟩])
  .ret)))
def c38 : ICode := b38
theorem w38 : W x Q c38 ks fr H ms = W x Q b38 ks fr H ms := rfl
def r38 : List IRes := [(.tmp 2)]
theorem t38 : Try.f38.body.bind (trCode Try.prog Try.f38.ntmps) = some (strip c38) := by kernel_rfl
theorem q38 : trRes Try.prog Try.f38.results.toList = some r38 := by kernel_rfl
theorem fn38 : Try.prog.funcs[38]? = some Try.f38 := by kernel_rfl
theorem nn38 : (Try.f38.name == "runtime.NumGoroutine") = false := by kernel_rfl
theorem nt38 : Try.f38.ntmps = 8 := by kernel_rfl
abbrev b19 : ICode :=
  (.seq (.ops [⟨some 2,(.mv (.k nilSl)),none⟩])
  (.seq (.ops [⟨some 3,(.mv (.t 0)),none⟩,⟨some 4,(.mv (.t 0)),none⟩,⟨some 5,(.len (.t 4)),none⟩,⟨some 6,(.mn (.t 5) (.k (I 6))),none⟩,⟨some 7,(.slS 1 (.t 3) none (some (.t 6)) none),none⟩,⟨some 8,(.call (.k (.fn (.func 38) [] [])) [(.t 7)]),none⟩,⟨some 2,(.mv (.t 8)),none⟩])
  .ret))
def c19 : ICode := b19
theorem w19 : W x Q c19 ks fr H ms = W x Q b19 ks fr H ms := rfl
def r19 : List IRes := [(.tmp 2)]
theorem t19 : Try.f19.body.bind (trCode Try.prog Try.f19.ntmps) = some (strip c19) := by kernel_rfl
theorem q19 : trRes Try.prog Try.f19.results.toList = some r19 := by kernel_rfl
theorem fn19 : Try.prog.funcs[19]? = some Try.f19 := by kernel_rfl
theorem nn19 : (Try.f19.name == "runtime.NumGoroutine") = false := by kernel_rfl
theorem nt19 : Try.f19.ntmps = 9 := by kernel_rfl
abbrev b18T1 : ICode :=
  (.keep [3] (.seq (.ops [⟨some 21,(.mv (.t 3)),none⟩,⟨some 2,(.mv (.t 21)),none⟩])
  .ret))
def c18T1 : ICode := b18T1
theorem w18T1 : W x Q c18T1 ks fr H ms = W x Q b18T1 ks fr H ms := rfl
/- live: [3,6,7,8] -/
abbrev b18L0 : ICode :=
  (.seq (.ops [⟨some 9,(.bin .lss (.t 8) (.t 7)),none⟩])
  (.seq (.cond (.t 9)
    .skip
    (.exit 0))
  (.seq (.block 1 (.seq (.ops [⟨some 10,(.mv (.t 8)),none⟩,⟨some 11,(.ixS 1 (.t 6) (.t 8)),none⟩,⟨some 12,(.load false 1 (.t 11)),none⟩,⟨some 4,(.mv (.t 10)),none⟩,⟨some 5,(.mv (.t 12)),none⟩])
  (.seq (.ops [⟨some 13,(.mv (.t 4)),none⟩,⟨some 14,(.bin .lss (.t 13) (.k (I 250))),none⟩])
  (.cond (.t 14)
    (.ops [⟨some 15,(.mv (.t 3)),none⟩,⟨some 16,(.mv (.t 5)),none⟩,⟨some 17,(.call (.k (.fn (.func 19) [] [])) [(.t 16)]),none⟩,⟨some 18,(.bslice 1 1 [nilSl] [(0,1,(.t 17))]),none⟩,⟨some 19,(.append 1 24 (.t 15) (.t 18)),none⟩,⟨some 3,(.mv (.t 19)),none⟩])
    .skip))))
  (.ops [⟨some 20,(.bin .add (.t 8) (.k (I 1))),none⟩,⟨some 8,(.mv (.t 20)),none⟩]))))
def c18L0 : ICode := b18L0
theorem w18L0 : W x Q c18L0 ks fr H ms = W x Q b18L0 ks fr H ms := rfl
abbrev b18 : ICode :=
  (.seq (.ops [⟨some 2,(.mv (.k nilSl)),none⟩])
  (.seq (.ops [⟨some 3,(.mv (.k nilSl)),none⟩])
  (.seq (.seq (.ops [⟨some 6,(.mv (.t 0)),none⟩,⟨some 7,(.len (.t 6)),none⟩,⟨some 8,(.mv (.k (I 0))),none⟩])
  (.block 0 (.loop c18L0)))
  c18T1)))
def c18 : ICode := b18
theorem w18 : W x Q c18 ks fr H ms = W x Q b18 ks fr H ms := rfl
def r18 : List IRes := [(.tmp 2)]
theorem t18 : Try.f18.body.bind (trCode Try.prog Try.f18.ntmps) = some (strip c18) := by kernel_rfl
theorem q18 : trRes Try.prog Try.f18.results.toList = some r18 := by kernel_rfl
theorem fn18 : Try.prog.funcs[18]? = some Try.f18 := by kernel_rfl
theorem nn18 : (Try.f18.name == "runtime.NumGoroutine") = false := by kernel_rfl
theorem nt18 : Try.f18.ntmps = 22 := by kernel_rfl
abbrev b22T1 : ICode :=
  (.keep [] (.seq (.ops [⟨some 4,(.mv (.k (B true))),none⟩])
  .ret))
def c22T1 : ICode := b22T1
theorem w22T1 : W x Q c22T1 ks fr H ms = W x Q b22T1 ks fr H ms := rfl
/- live: [0,1,12,13] -/
abbrev b22L0 : ICode :=
  (.seq (.ops [⟨some 14,(.bin .lss (.t 13) (.t 12)),none⟩])
  (.seq (.cond (.t 14)
    .skip
    (.exit 0))
  (.seq (.block 1 (.seq (.ops [⟨some 15,(.mv (.t 13)),none⟩,⟨some 5,(.mv (.t 15)),none⟩])
  (.seq (.draw 0 [] (.early 1 ⟨some 16,(.mv (.t 0)),none⟩
    (.early 1 ⟨some 17,(.mv (.t 5)),none⟩
    (.early 1 ⟨some 18,(.ixS 1 (.t 16) (.t 17)),none⟩
    (.early 1 ⟨some 19,(.load false 1 (.t 18)),none⟩
    (.early 1 ⟨some 20,(.mv (.t 1)),none⟩
    (.early 1 ⟨some 21,(.mv (.t 5)),none⟩
    (.early 1 ⟨some 22,(.ixS 1 (.t 20) (.t 21)),none⟩
    (.early 1 ⟨some 23,(.load false 1 (.t 22)),none⟩
    (.early 0 ⟨some 24,(.bin .neq (.t 19) (.t 23)),none⟩
    .done))))))))))
  (.keep [0,1,12,13,24] (.cond (.t 24)
    (.seq (.ops [⟨some 4,(.mv (.k (B false))),none⟩])
    .ret)
    .skip)))))
  (.ops [⟨some 25,(.bin .add (.t 13) (.k (I 1))),none⟩,⟨some 13,(.mv (.t 25)),none⟩]))))
def c22L0 : ICode := b22L0
theorem w22L0 : W x Q c22L0 ks fr H ms = W x Q b22L0 ks fr H ms := rfl
abbrev b22 : ICode :=
  (.seq (.ops [⟨some 4,(.mv (.k (B false))),none⟩])
  (.seq (.seq (.ops [⟨some 6,(.mv (.t 0)),none⟩,⟨some 7,(.len (.t 6)),none⟩,⟨some 8,(.mv (.t 1)),none⟩,⟨some 9,(.len (.t 8)),none⟩,⟨some 10,(.bin .neq (.t 7) (.t 9)),none⟩])
  (.cond (.t 10)
    (.seq (.ops [⟨some 4,(.mv (.k (B false))),none⟩])
    .ret)
    .skip))
  (.seq (.seq (.ops [⟨some 11,(.mv (.t 0)),none⟩,⟨some 12,(.len (.t 11)),none⟩,⟨some 13,(.mv (.k (I 0))),none⟩])
  (.block 0 (.loop c22L0)))
  c22T1)))
def c22 : ICode := b22
theorem w22 : W x Q c22 ks fr H ms = W x Q b22 ks fr H ms := rfl
def r22 : List IRes := [(.tmp 4)]
theorem t22 : Try.f22.body.bind (trCode Try.prog Try.f22.ntmps) = some (strip c22) := by kernel_rfl
theorem q22 : trRes Try.prog Try.f22.results.toList = some r22 := by kernel_rfl
theorem fn22 : Try.prog.funcs[22]? = some Try.f22 := by kernel_rfl
theorem nn22 : (Try.f22.name == "runtime.NumGoroutine") = false := by kernel_rfl
theorem nt22 : Try.f22.ntmps = 26 := by kernel_rfl
abbrev b24T1 : ICode :=
  (.keep [] (.seq (.ops [⟨some 6,(.mv (.k (B true))),none⟩])
  .ret))
def c24T1 : ICode := b24T1
theorem w24T1 : W x Q c24T1 ks fr H ms = W x Q b24T1 ks fr H ms := rfl
/- live: [1,2,9,10,11] -/
abbrev b24L0 : ICode :=
  (.seq (.ops [⟨some 12,(.bin .lss (.t 11) (.t 10)),none⟩])
  (.seq (.cond (.t 12)
    .skip
    (.exit 0))
  (.seq (.block 1 (.seq (.ops [⟨some 13,(.ixS 1 (.t 9) (.t 11)),none⟩,⟨some 14,(.load false 1 (.t 13)),none⟩,⟨some 8,(.mv (.t 14)),none⟩])
  (.seq (.ops [⟨some 15,(.mv (.t 8)),none⟩,⟨some 16,(.mv (.t 1)),none⟩,⟨some 17,(.bin .lss (.t 15) (.t 16)),none⟩,⟨some 18,(.mv (.t 17)),none⟩,⟨some 19,(.mv (.t 8)),some (18,false)⟩,⟨some 20,(.mv (.t 2)),some (18,false)⟩,⟨some 21,(.bin .gtr (.t 19) (.t 20)),some (18,false)⟩,⟨some 22,(.pick (.t 18) (.k (B true)) (.t 21)),none⟩])
  (.cond (.t 22)
    (.seq (.ops [⟨some 6,(.mv (.k (B false))),none⟩])
    .ret)
    .skip))))
  (.ops [⟨some 23,(.bin .add (.t 11) (.k (I 1))),none⟩,⟨some 11,(.mv (.t 23)),none⟩]))))
def c24L0 : ICode := b24L0
theorem w24L0 : W x Q c24L0 ks fr H ms = W x Q b24L0 ks fr H ms := rfl
abbrev b24 : ICode :=
  (.seq (.ops [⟨some 6,(.mv (.k (B false))),none⟩])
  (.seq (.seq (.ops [⟨some 9,(.mv (.t 0)),none⟩,⟨some 10,(.len (.t 9)),none⟩,⟨some 11,(.mv (.k (I 0))),none⟩])
  (.block 0 (.loop c24L0)))
  c24T1))
def c24 : ICode := b24
theorem w24 : W x Q c24 ks fr H ms = W x Q b24 ks fr H ms := rfl
def r24 : List IRes := [(.tmp 6)]
theorem t24 : Try.f24.body.bind (trCode Try.prog Try.f24.ntmps) = some (strip c24) := by kernel_rfl
theorem q24 : trRes Try.prog Try.f24.results.toList = some r24 := by kernel_rfl
theorem fn24 : Try.prog.funcs[24]? = some Try.f24 := by kernel_rfl
theorem nn24 : (Try.f24.name == "runtime.NumGoroutine") = false := by kernel_rfl
theorem nt24 : Try.f24.ntmps = 24 := by kernel_rfl
abbrev b40T1 : ICode :=
  (.keep [] (.seq (.ops [⟨some 2,(.mv (.k (B true))),none⟩])
  .ret))
def c40T1 : ICode := b40T1
theorem w40T1 : W x Q c40T1 ks fr H ms = W x Q b40T1 ks fr H ms := rfl
/- live: [0,13,14,15] -/
abbrev b40L0 : ICode :=
  (.seq (.ops [⟨some 16,(.bin .lss (.t 15) (.t 14)),none⟩])
  (.seq (.cond (.t 16)
    .skip
    (.exit 0))
  (.seq (.block 1 (.seq (.ops [⟨some 17,(.ixS 1 (.t 13) (.t 15)),none⟩,⟨some 18,(.load false 1 (.t 17)),none⟩,⟨some 4,(.mv (.t 18)),none⟩])
  (.seq (.ops [⟨some 19,(.mv (.t 4)),none⟩,⟨some 20,(.len (.t 19)),none⟩,⟨some 21,(.mv (.t 0)),none⟩,⟨some 22,(.ixS 1 (.t 21) (.k (I 0))),none⟩,⟨some 23,(.load false 1 (.t 22)),none⟩,⟨some 24,(.len (.t 23)),none⟩,⟨some 25,(.bin .neq (.t 20) (.t 24)),none⟩,⟨some 26,(.mv (.t 25)),none⟩,⟨some 27,(.mv (.t 4)),some (26,false)⟩,⟨some 28,(.len (.t 27)),some (26,false)⟩,⟨some 29,(.bin .lss (.t 28) (.k (I 1))),some (26,false)⟩,⟨some 30,(.pick (.t 26) (.k (B true)) (.t 29)),none⟩,⟨some 31,(.mv (.t 30)),none⟩,⟨some 32,(.mv (.t 4)),some (31,false)⟩,⟨some 33,(.len (.t 32)),some (31,false)⟩,⟨some 34,(.bin .gtr (.t 33) (.k (I 4))),some (31,false)⟩,⟨some 35,(.pick (.t 31) (.k (B true)) (.t 34)),none⟩,⟨some 36,(.mv (.t 35)),none⟩,⟨some 37,(.mv (.t 4)),some (36,false)⟩,⟨some 38,(.call (.k (.fn (.func 24) [] [])) [(.t 37),(.k (I (-2))),(.k (I 2))]),some (36,false)⟩,⟨some 39,(.un .not (.t 38)),some (36,false)⟩,⟨some 40,(.pick (.t 36) (.k (B true)) (.t 39)),none⟩])
  (.cond (.t 40)
    (.seq (.ops [⟨some 2,(.mv (.k (B false))),none⟩])
    .ret)
    .skip))))
  (.ops [⟨some 41,(.bin .add (.t 15) (.k (I 1))),none⟩,⟨some 15,(.mv (.t 41)),none⟩]))))
def c40L0 : ICode := b40L0
theorem w40L0 : W x Q c40L0 ks fr H ms = W x Q b40L0 ks fr H ms := rfl
abbrev b40 : ICode :=
  (.seq (.ops [⟨some 2,(.mv (.k (B false))),none⟩])
  (.seq (.seq (.ops [⟨some 5,(.mv (.t 0)),none⟩,⟨some 6,(.len (.t 5)),none⟩,⟨some 7,(.bin .lss (.t 6) (.k (I 1))),none⟩,⟨some 8,(.mv (.t 7)),none⟩,⟨some 9,(.mv (.t 0)),some (8,false)⟩,⟨some 10,(.len (.t 9)),some (8,false)⟩,⟨some 11,(.bin .gtr (.t 10) (.k (I 2))),some (8,false)⟩,⟨some 12,(.pick (.t 8) (.k (B true)) (.t 11)),none⟩])
  (.cond (.t 12)
    (.seq (.ops [⟨some 2,(.mv (.k (B false))),none⟩])
    .ret)
    .skip))
  (.seq (.seq (.ops [⟨some 13,(.mv (.t 0)),none⟩,⟨some 14,(.len (.t 13)),none⟩,⟨some 15,(.mv (.k (I 0))),none⟩])
  (.block 0 (.loop c40L0)))
  c40T1)))
def c40 : ICode := b40
theorem w40 : W x Q c40 ks fr H ms = W x Q b40 ks fr H ms := rfl
def r40 : List IRes := [(.tmp 2)]
theorem t40 : Try.f40.body.bind (trCode Try.prog Try.f40.ntmps) = some (strip c40) := by kernel_rfl
theorem q40 : trRes Try.prog Try.f40.results.toList = some r40 := by kernel_rfl
theorem fn40 : Try.prog.funcs[40]? = some Try.f40 := by kernel_rfl
theorem nn40 : (Try.f40.name == "runtime.NumGoroutine") = false := by kernel_rfl
theorem nt40 : Try.f40.ntmps = 42 := by kernel_rfl
abbrev b21 : ICode :=
  (.seq (.ops [⟨some 8,(.mv (.k (B false))),none⟩])
  (.seq (.ops [⟨some 9,(.mv (.t 0)),none⟩,⟨some 10,(.call (.k (.fn (.func 40) [] [])) [(.t 9)]),none⟩,⟨some 11,(.mv (.t 10)),none⟩,⟨some 12,(.mv (.t 1)),some (11,true)⟩,⟨some 13,(.len (.t 12)),some (11,true)⟩,⟨some 14,(.mv (.t 0)),some (11,true)⟩,⟨some 15,(.ixS 1 (.t 14) (.k (I 0))),some (11,true)⟩,⟨some 16,(.load false 1 (.t 15)),some (11,true)⟩,⟨some 17,(.len (.t 16)),some (11,true)⟩,⟨some 18,(.bin .eql (.t 13) (.t 17)),some (11,true)⟩,⟨some 19,(.pick (.t 11) (.t 18) (.k (B false))),none⟩,⟨some 20,(.mv (.t 19)),none⟩,⟨some 21,(.mv (.t 1)),some (20,true)⟩,⟨some 22,(.mv (.t 2)),some (20,true)⟩,⟨some 23,(.mv (.t 3)),some (20,true)⟩,⟨some 24,(.call (.k (.fn (.func 24) [] [])) [(.t 21),(.t 22),(.t 23)]),some (20,true)⟩,⟨some 25,(.pick (.t 20) (.t 24) (.k (B false))),none⟩,⟨some 8,(.mv (.t 25)),none⟩])
  .ret))
def c21 : ICode := b21
theorem w21 : W x Q c21 ks fr H ms = W x Q b21 ks fr H ms := rfl
def r21 : List IRes := [(.tmp 8)]
theorem t21 : Try.f21.body.bind (trCode Try.prog Try.f21.ntmps) = some (strip c21) := by kernel_rfl
theorem q21 : trRes Try.prog Try.f21.results.toList = some r21 := by kernel_rfl
theorem fn21 : Try.prog.funcs[21]? = some Try.f21 := by kernel_rfl
theorem nn21 : (Try.f21.name == "runtime.NumGoroutine") = false := by kernel_rfl
theorem nt21 : Try.f21.ntmps = 26 := by kernel_rfl
abbrev b23T4 : ICode :=
  (.keep [5] (.seq (.ops [⟨some 38,(.mv (.t 5)),none⟩,⟨some 4,(.mv (.t 38)),none⟩])
  .ret))
def c23T4 : ICode := b23T4
theorem w23T4 : W x Q c23T4 ks fr H ms = W x Q b23T4 ks fr H ms := rfl
abbrev b23T3 : ICode :=
  (.keep [1,5,11,12,13] (.ops [⟨some 37,(.bin .add (.t 13) (.k (I 1))),none⟩,⟨some 13,(.mv (.t 37)),none⟩]))
def c23T3 : ICode := b23T3
theorem w23T3 : W x Q c23T3 ks fr H ms = W x Q b23T3 ks fr H ms := rfl
abbrev b23T2 : ICode :=
  (.keep [1,5,8,11,12,13] (.ops [⟨some 33,(.mv (.t 5)),none⟩,⟨some 34,(.mv (.t 8)),none⟩,⟨some 35,(.bslice 1 1 [(I 0)] [(0,1,(.t 34))]),none⟩,⟨some 36,(.append 1 8 (.t 33) (.t 35)),none⟩,⟨some 5,(.mv (.t 36)),none⟩]))
def c23T2 : ICode := b23T2
theorem w23T2 : W x Q c23T2 ks fr H ms = W x Q b23T2 ks fr H ms := rfl
/- live: [1,5,7,8,11,12,13,17,18,19] -/
abbrev b23L1 : ICode :=
  (.seq (.ops [⟨some 20,(.bin .lss (.t 19) (.t 18)),none⟩])
  (.seq (.cond (.t 20)
    .skip
    (.exit 2))
  (.seq (.block 3 (.seq (.ops [⟨some 21,(.mv (.t 19)),none⟩,⟨some 22,(.ixS 1 (.t 17) (.t 19)),none⟩,⟨some 23,(.load false 1 (.t 22)),none⟩,⟨some 9,(.mv (.t 21)),none⟩,⟨some 10,(.mv (.t 23)),none⟩])
  (.ops [⟨some 24,(.mv (.t 8)),none⟩,⟨some 25,(.mv (.t 7)),none⟩,⟨some 26,(.mv (.t 9)),none⟩,⟨some 27,(.ixS 1 (.t 25) (.t 26)),none⟩,⟨some 28,(.load false 1 (.t 27)),none⟩,⟨some 29,(.mv (.t 10)),none⟩,⟨some 30,(.bin .mul (.t 28) (.t 29)),none⟩,⟨some 31,(.bin .add (.t 24) (.t 30)),none⟩,⟨some 8,(.mv (.t 31)),none⟩])))
  (.ops [⟨some 32,(.bin .add (.t 19) (.k (I 1))),none⟩,⟨some 19,(.mv (.t 32)),none⟩]))))
def c23L1 : ICode := b23L1
theorem w23L1 : W x Q c23L1 ks fr H ms = W x Q b23L1 ks fr H ms := rfl
/- live: [1,5,11,12,13] -/
abbrev b23L0 : ICode :=
  (.seq (.ops [⟨some 14,(.bin .lss (.t 13) (.t 12)),none⟩])
  (.seq (.cond (.t 14)
    .skip
    (.exit 0))
  (.seq (.block 1 (.seq (.ops [⟨some 15,(.ixS 1 (.t 11) (.t 13)),none⟩,⟨some 16,(.load false 1 (.t 15)),none⟩,⟨some 7,(.mv (.t 16)),none⟩])
  (.seq (.ops [⟨some 8,(.mv (.k (I 0))),none⟩])
  (.seq (.seq (.ops [⟨some 17,(.mv (.t 1)),none⟩,⟨some 18,(.len (.t 17)),none⟩,⟨some 19,(.mv (.k (I 0))),none⟩])
  (.block 2 (.loop c23L1)))
  c23T2))))
  c23T3)))
def c23L0 : ICode := b23L0
theorem w23L0 : W x Q c23L0 ks fr H ms = W x Q b23L0 ks fr H ms := rfl
abbrev b23 : ICode :=
  (.seq (.ops [⟨some 4,(.mv (.k nilSl)),none⟩])
  (.seq (.ops [⟨some 5,(.mv (.k nilSl)),none⟩])
  (.seq (.seq (.ops [⟨some 11,(.mv (.t 0)),none⟩,⟨some 12,(.len (.t 11)),none⟩,⟨some 13,(.mv (.k (I 0))),none⟩])
  (.block 0 (.loop c23L0)))
  c23T4)))
def c23 : ICode := b23
theorem w23 : W x Q c23 ks fr H ms = W x Q b23 ks fr H ms := rfl
def r23 : List IRes := [(.tmp 4)]
theorem t23 : Try.f23.body.bind (trCode Try.prog Try.f23.ntmps) = some (strip c23) := by kernel_rfl
theorem q23 : trRes Try.prog Try.f23.results.toList = some r23 := by kernel_rfl
theorem fn23 : Try.prog.funcs[23]? = some Try.f23 := by kernel_rfl
theorem nn23 : (Try.f23.name == "runtime.NumGoroutine") = false := by kernel_rfl
theorem nt23 : Try.f23.ntmps = 39 := by kernel_rfl
abbrev b26T1 : ICode :=
  (.keep [] (.seq (.ops [⟨some 4,(.mv (.k (B true))),none⟩])
  .ret))
def c26T1 : ICode := b26T1
theorem w26T1 : W x Q c26T1 ks fr H ms = W x Q b26T1 ks fr H ms := rfl
/- live: [1,7,8,9] -/
abbrev b26L0 : ICode :=
  (.seq (.ops [⟨some 10,(.bin .lss (.t 9) (.t 8)),none⟩])
  (.seq (.cond (.t 10)
    .skip
    (.exit 0))
  (.seq (.block 1 (.seq (.ops [⟨some 11,(.mv (.t 9)),none⟩,⟨some 12,(.ixS 1 (.t 7) (.t 9)),none⟩,⟨some 13,(.load false 1 (.t 12)),none⟩,⟨some 5,(.mv (.t 11)),none⟩,⟨some 6,(.mv (.t 13)),none⟩])
  (.seq (.ops [⟨some 14,(.mv (.t 6)),none⟩,⟨some 15,(.bin .gtr (.t 14) (.k (I 0))),none⟩,⟨some 16,(.mv (.t 15)),none⟩,⟨some 17,(.mv (.t 6)),some (16,true)⟩,⟨some 18,(.mv (.t 1)),some (16,true)⟩,⟨some 19,(.mv (.t 5)),some (16,true)⟩,⟨some 20,(.ixS 1 (.t 18) (.t 19)),some (16,true)⟩,⟨some 21,(.load false 1 (.t 20)),some (16,true)⟩,⟨some 22,(.bin .gtr (.t 17) (.t 21)),some (16,true)⟩,⟨some 23,(.pick (.t 16) (.t 22) (.k (B false))),none⟩,⟨some 24,(.mv (.t 23)),none⟩,⟨some 25,(.mv (.t 6)),some (24,false)⟩,⟨some 26,(.bin .lss (.t 25) (.k (I 0))),some (24,false)⟩,⟨some 27,(.mv (.t 26)),some (24,false)⟩,⟨some 28,(.mv (.t 6)),some (27,true)⟩,⟨some 29,(.mv (.t 1)),some (27,true)⟩,⟨some 30,(.mv (.t 5)),some (27,true)⟩,⟨some 31,(.ixS 1 (.t 29) (.t 30)),some (27,true)⟩,⟨some 32,(.load false 1 (.t 31)),some (27,true)⟩,⟨some 33,(.bin .lss (.t 28) (.t 32)),some (27,true)⟩,⟨some 34,(.pick (.t 27) (.t 33) (.k (B false))),some (24,false)⟩,⟨some 35,(.pick (.t 24) (.k (B true)) (.t 34)),none⟩])
  (.cond (.t 35)
    (.seq (.ops [⟨some 4,(.mv (.k (B false))),none⟩])
    .ret)
    .skip))))
  (.ops [⟨some 36,(.bin .add (.t 9) (.k (I 1))),none⟩,⟨some 9,(.mv (.t 36)),none⟩]))))
def c26L0 : ICode := b26L0
theorem w26L0 : W x Q c26L0 ks fr H ms = W x Q b26L0 ks fr H ms := rfl
abbrev b26 : ICode :=
  (.seq (.ops [⟨some 4,(.mv (.k (B false))),none⟩])
  (.seq (.seq (.ops [⟨some 7,(.mv (.t 0)),none⟩,⟨some 8,(.len (.t 7)),none⟩,⟨some 9,(.mv (.k (I 0))),none⟩])
  (.block 0 (.loop c26L0)))
  c26T1))
def c26 : ICode := b26
theorem w26 : W x Q c26 ks fr H ms = W x Q b26 ks fr H ms := rfl
def r26 : List IRes := [(.tmp 4)]
theorem t26 : Try.f26.body.bind (trCode Try.prog Try.f26.ntmps) = some (strip c26) := by kernel_rfl
theorem q26 : trRes Try.prog Try.f26.results.toList = some r26 := by kernel_rfl
theorem fn26 : Try.prog.funcs[26]? = some Try.f26 := by kernel_rfl
theorem nn26 : (Try.f26.name == "runtime.NumGoroutine") = false := by kernel_rfl
theorem nt26 : Try.f26.ntmps = 37 := by kernel_rfl
abbrev b72T1 : ICode :=
  (.keep [3] (.seq (.ops [⟨some 24,(.mv (.t 3)),none⟩,⟨some 2,(.mv (.t 24)),none⟩])
  .ret))
def c72T1 : ICode := b72T1
theorem w72T1 : W x Q c72T1 ks fr H ms = W x Q b72T1 ks fr H ms := rfl
/- live: [0,3,4] -/
abbrev b72L0 : ICode :=
  (.seq (.seq (.ops [⟨some 12,(.mv (.t 4)),none⟩,⟨some 13,(.mv (.t 0)),none⟩,⟨some 14,(.len (.t 13)),none⟩,⟨some 15,(.bin .lss (.t 12) (.t 14)),none⟩])
  (.cond (.t 15)
    .skip
    (.exit 0)))
  (.seq (.block 1 (.ops [⟨some 18,(.mv (.t 3)),none⟩,⟨some 19,(.mv (.t 0)),none⟩,⟨some 20,(.mv (.t 4)),none⟩,⟨some 21,(.ixS 1 (.t 19) (.t 20)),none⟩,⟨some 22,(.load false 1 (.t 21)),none⟩,⟨some 23,(.mn (.t 18) (.t 22)),none⟩,⟨some 3,(.mv (.t 23)),none⟩]))
  (.ops [⟨some 16,(.mv (.t 4)),none⟩,⟨some 17,(.bin .add (.t 16) (.k (I 1))),none⟩,⟨some 4,(.mv (.t 17)),none⟩])))
def c72L0 : ICode := b72L0
theorem w72L0 : W x Q c72L0 ks fr H ms = W x Q b72L0 ks fr H ms := rfl
abbrev b72 : ICode :=
  (.seq (.ops [⟨some 2,(.mv (.k (I 0))),none⟩])
  (.seq (.seq (.ops [⟨some 5,(.mv (.t 0)),none⟩,⟨some 6,(.len (.t 5)),none⟩,⟨some 7,(.bin .lss (.t 6) (.k (I 1))),none⟩])
  (.cond (.t 7)
    .no
    .skip))
  (.seq (.ops [⟨some 9,(.mv (.t 0)),none⟩,⟨some 10,(.ixS 1 (.t 9) (.k (I 0))),none⟩,⟨some 11,(.load false 1 (.t 10)),none⟩,⟨some 3,(.mv (.t 11)),none⟩])
  (.seq (.seq (.ops [⟨some 4,(.mv (.k (I 1))),none⟩])
  (.block 0 (.loop c72L0)))
  c72T1))))
def c72 : ICode := b72
theorem w72 : W x Q c72 ks fr H ms = W x Q b72 ks fr H ms := rfl
def r72 : List IRes := [(.tmp 2)]
theorem t72 : Try.f72.body.bind (trCode Try.prog Try.f72.ntmps) = some (strip c72) := by kernel_rfl
theorem q72 : trRes Try.prog Try.f72.results.toList = some r72 := by kernel_rfl
theorem fn72 : Try.prog.funcs[72]? = some Try.f72 := by kernel_rfl
theorem nn72 : (Try.f72.name == "runtime.NumGoroutine") = false := by kernel_rfl
theorem nt72 : Try.f72.ntmps = 25 := by kernel_rfl
abbrev b101T1 : ICode :=
  (.keep [3] (.seq (.ops [⟨some 24,(.mv (.t 3)),none⟩,⟨some 2,(.mv (.t 24)),none⟩])
  .ret))
def c101T1 : ICode := b101T1
theorem w101T1 : W x Q c101T1 ks fr H ms = W x Q b101T1 ks fr H ms := rfl
/- live: [0,3,4] -/
abbrev b101L0 : ICode :=
  (.seq (.seq (.ops [⟨some 12,(.mv (.t 4)),none⟩,⟨some 13,(.mv (.t 0)),none⟩,⟨some 14,(.len (.t 13)),none⟩,⟨some 15,(.bin .lss (.t 12) (.t 14)),none⟩])
  (.cond (.t 15)
    .skip
    (.exit 0)))
  (.seq (.block 1 (.ops [⟨some 18,(.mv (.t 3)),none⟩,⟨some 19,(.mv (.t 0)),none⟩,⟨some 20,(.mv (.t 4)),none⟩,⟨some 21,(.ixS 1 (.t 19) (.t 20)),none⟩,⟨some 22,(.load false 1 (.t 21)),none⟩,⟨some 23,(.mx (.t 18) (.t 22)),none⟩,⟨some 3,(.mv (.t 23)),none⟩]))
  (.ops [⟨some 16,(.mv (.t 4)),none⟩,⟨some 17,(.bin .add (.t 16) (.k (I 1))),none⟩,⟨some 4,(.mv (.t 17)),none⟩])))
def c101L0 : ICode := b101L0
theorem w101L0 : W x Q c101L0 ks fr H ms = W x Q b101L0 ks fr H ms := rfl
abbrev b101 : ICode :=
  (.seq (.ops [⟨some 2,(.mv (.k (I 0))),none⟩])
  (.seq (.seq (.ops [⟨some 5,(.mv (.t 0)),none⟩,⟨some 6,(.len (.t 5)),none⟩,⟨some 7,(.bin .lss (.t 6) (.k (I 1))),none⟩])
  (.cond (.t 7)
    .no
    .skip))
  (.seq (.ops [⟨some 9,(.mv (.t 0)),none⟩,⟨some 10,(.ixS 1 (.t 9) (.k (I 0))),none⟩,⟨some 11,(.load false 1 (.t 10)),none⟩,⟨some 3,(.mv (.t 11)),none⟩])
  (.seq (.seq (.ops [⟨some 4,(.mv (.k (I 1))),none⟩])
  (.block 0 (.loop c101L0)))
  c101T1))))
def c101 : ICode := b101
theorem w101 : W x Q c101 ks fr H ms = W x Q b101 ks fr H ms := rfl
def r101 : List IRes := [(.tmp 2)]
theorem t101 : Try.f101.body.bind (trCode Try.prog Try.f101.ntmps) = some (strip c101) := by kernel_rfl
theorem q101 : trRes Try.prog Try.f101.results.toList = some r101 := by kernel_rfl
theorem fn101 : Try.prog.funcs[101]? = some Try.f101 := by kernel_rfl
theorem nn101 : (Try.f101.name == "runtime.NumGoroutine") = false := by kernel_rfl
theorem nt101 : Try.f101.ntmps = 25 := by kernel_rfl
abbrev b74 : ICode :=
  (.seq (.ops [⟨some 2,(.alloc [(I 0),(I 0),(I 0),(I 0)]),none⟩])
  (.seq (.ops [⟨some 3,(.alloc [(I 0),(I 0),(I 0),(I 0)]),none⟩])
  (.seq (.ops [⟨some 4,(.slP 4 1 (.t 3) none none),none⟩,⟨some 5,(.mv (.t 0)),none⟩,⟨some 6,(.copy 1 (.t 4) (.t 5)),none⟩])
  (.seq (.ops [⟨some 7,(.load true 4 (.t 3)),none⟩,⟨none,(.store 4 (.t 2) (.t 7)),none⟩])
  .ret))))
def c74 : ICode := b74
theorem w74 : W x Q c74 ks fr H ms = W x Q b74 ks fr H ms := rfl
def r74 : List IRes := [(.cell true 4 2)]
theorem t74 : Try.f74.body.bind (trCode Try.prog Try.f74.ntmps) = some (strip c74) := by kernel_rfl
theorem q74 : trRes Try.prog Try.f74.results.toList = some r74 := by kernel_rfl
theorem fn74 : Try.prog.funcs[74]? = some Try.f74 := by kernel_rfl
theorem nn74 : (Try.f74.name == "runtime.NumGoroutine") = false := by kernel_rfl
theorem nt74 : Try.f74.ntmps = 8 := by kernel_rfl
abbrev b62T1 : ICode :=
  (.keep [2,4] (.seq (.ops [⟨some 61,(.load true 2 (.t 4)),none⟩,⟨none,(.store 2 (.t 2) (.t 61)),none⟩,⟨some 3,(.mv (.k (B true))),none⟩])
  .ret))
def c62T1 : ICode := b62T1
theorem w62T1 : W x Q c62T1 ks fr H ms = W x Q b62T1 ks fr H ms := rfl
/- live: [2,4,21,22,23] -/
abbrev b62L0 : ICode :=
  (.seq (.ops [⟨some 24,(.bin .lss (.t 23) (.t 22)),none⟩])
  (.seq (.cond (.t 24)
    .skip
    (.exit 0))
  (.seq (.block 1 (.seq (.ops [⟨some 25,(.ixS 1 (.t 21) (.t 23)),none⟩,⟨some 26,(.load false 1 (.t 25)),none⟩,⟨some 6,(.mv (.t 26)),none⟩])
  (.seq (.seq (.ops [⟨some 27,(.mv (.t 6)),none⟩,⟨some 28,(.len (.t 27)),none⟩,⟨some 29,(.fldA 1 (.t 4)),none⟩,⟨some 30,(.load false 1 (.t 29)),none⟩,⟨some 31,(.bin .neq (.t 28) (.t 30)),none⟩,⟨some 32,(.mv (.t 31)),none⟩,⟨some 33,(.fldA 1 (.t 4)),some (32,false)⟩,⟨some 34,(.load false 1 (.t 33)),some (32,false)⟩,⟨some 35,(.bin .lss (.t 34) (.k (I 1))),some (32,false)⟩,⟨some 36,(.pick (.t 32) (.k (B true)) (.t 35)),none⟩,⟨some 37,(.mv (.t 36)),none⟩,⟨some 38,(.fldA 1 (.t 4)),some (37,false)⟩,⟨some 39,(.load false 1 (.t 38)),some (37,false)⟩,⟨some 40,(.bin .gtr (.t 39) (.k (I 4))),some (37,false)⟩,⟨some 41,(.pick (.t 37) (.k (B true)) (.t 40)),none⟩,⟨some 42,(.mv (.t 41)),none⟩,⟨some 43,(.mv (.t 6)),some (42,false)⟩,⟨some 44,(.call (.k (.fn (.func 72) [] [])) [(.t 43)]),some (42,false)⟩,⟨some 45,(.bin .lss (.t 44) (.k (I (-2)))),some (42,false)⟩,⟨some 46,(.pick (.t 42) (.k (B true)) (.t 45)),none⟩,⟨some 47,(.mv (.t 46)),none⟩,⟨some 48,(.mv (.t 6)),some (47,false)⟩,⟨some 49,(.call (.k (.fn (.func 101) [] [])) [(.t 48)]),some (47,false)⟩,⟨some 50,(.bin .gtr (.t 49) (.k (I 2))),some (47,false)⟩,⟨some 51,(.pick (.t 47) (.k (B true)) (.t 50)),none⟩])
  (.cond (.t 51)
    (.seq (.ops [⟨some 52,(.load true 2 (.t 4)),none⟩,⟨none,(.store 2 (.t 2) (.t 52)),none⟩,⟨some 3,(.mv (.k (B false))),none⟩])
    .ret)
    .skip))
  (.draw 2 [] (.early 1 ⟨some 53,(.fldA 0 (.t 4)),none⟩
    (.early 1 ⟨some 54,(.load false 1 (.t 53)),none⟩
    (.early 1 ⟨some 55,(.mv (.t 6)),none⟩
    (.early 1 ⟨some 56,(.call (.k (.fn (.func 74) [] [])) [(.t 55)]),none⟩
    (.step 0 1 ⟨some 57,(.bslice 4 1 [(I 0),(I 0),(I 0),(I 0)] [(0,4,(.t 56))]),none⟩
    (.step 1 0 ⟨some 58,(.append 4 32 (.t 54) (.t 57)),none⟩
    (.early 0 ⟨some 59,(.fldA 0 (.t 4)),none⟩
    (.step 2 0 ⟨none,(.store 1 (.t 59) (.t 58)),none⟩
    .done))))))))))))
  (.ops [⟨some 60,(.bin .add (.t 23) (.k (I 1))),none⟩,⟨some 23,(.mv (.t 60)),none⟩]))))
def c62L0 : ICode := b62L0
theorem w62L0 : W x Q c62L0 ks fr H ms = W x Q b62L0 ks fr H ms := rfl
abbrev b62 : ICode :=
  (.seq (.ops [⟨some 2,(.alloc [nilSl,(I 0)]),none⟩,⟨some 3,(.mv (.k (B false))),none⟩])
  (.seq (.ops [⟨some 4,(.alloc [nilSl,(I 0)]),none⟩])
  (.seq (.seq (.ops [⟨some 7,(.mv (.t 0)),none⟩,⟨some 8,(.len (.t 7)),none⟩,⟨some 9,(.bin .lss (.t 8) (.k (I 1))),none⟩,⟨some 10,(.mv (.t 9)),none⟩,⟨some 11,(.mv (.t 0)),some (10,false)⟩,⟨some 12,(.len (.t 11)),some (10,false)⟩,⟨some 13,(.bin .gtr (.t 12) (.k (I 2))),some (10,false)⟩,⟨some 14,(.pick (.t 10) (.k (B true)) (.t 13)),none⟩])
  (.cond (.t 14)
    (.seq (.ops [⟨some 15,(.load true 2 (.t 4)),none⟩,⟨none,(.store 2 (.t 2) (.t 15)),none⟩,⟨some 3,(.mv (.k (B false))),none⟩])
    .ret)
    .skip))
  (.seq (.ops [⟨some 16,(.mv (.t 0)),none⟩,⟨some 17,(.ixS 1 (.t 16) (.k (I 0))),none⟩,⟨some 18,(.load false 1 (.t 17)),none⟩,⟨some 19,(.len (.t 18)),none⟩,⟨some 20,(.fldA 1 (.t 4)),none⟩,⟨none,(.store 1 (.t 20) (.t 19)),none⟩])
  (.seq (.seq (.ops [⟨some 21,(.mv (.t 0)),none⟩,⟨some 22,(.len (.t 21)),none⟩,⟨some 23,(.mv (.k (I 0))),none⟩])
  (.block 0 (.loop c62L0)))
  c62T1)))))
def c62 : ICode := b62
theorem w62 : W x Q c62 ks fr H ms = W x Q b62 ks fr H ms := rfl
def r62 : List IRes := [(.cell true 2 2),(.tmp 3)]
theorem t62 : Try.f62.body.bind (trCode Try.prog Try.f62.ntmps) = some (strip c62) := by kernel_rfl
theorem q62 : trRes Try.prog Try.f62.results.toList = some r62 := by kernel_rfl
theorem fn62 : Try.prog.funcs[62]? = some Try.f62 := by kernel_rfl
theorem nn62 : (Try.f62.name == "runtime.NumGoroutine") = false := by kernel_rfl
theorem nt62 : Try.f62.ntmps = 62 := by kernel_rfl
abbrev b63 : ICode :=
  (.seq (.ops [⟨some 4,(.box (.t 0)),none⟩,⟨some 8,(.alloc [(I 0),(I 0),(I 0),(I 0)]),none⟩,⟨some 9,(.mv (.k (B false))),none⟩])
  (.seq (.seq (.ops [⟨some 10,(.mv (.t 1)),none⟩,⟨some 11,(.len (.t 10)),none⟩,⟨some 12,(.fldA 1 (.t 4)),none⟩,⟨some 13,(.load false 1 (.t 12)),none⟩,⟨some 14,(.bin .neq (.t 11) (.t 13)),none⟩,⟨some 15,(.mv (.t 14)),none⟩,⟨some 16,(.mv (.t 1)),some (15,false)⟩,⟨some 17,(.call (.k (.fn (.func 72) [] [])) [(.t 16)]),some (15,false)⟩,⟨some 18,(.mv (.t 2)),some (15,false)⟩,⟨some 19,(.bin .lss (.t 17) (.t 18)),some (15,false)⟩,⟨some 20,(.pick (.t 15) (.k (B true)) (.t 19)),none⟩,⟨some 21,(.mv (.t 20)),none⟩,⟨some 22,(.mv (.t 1)),some (21,false)⟩,⟨some 23,(.call (.k (.fn (.func 101) [] [])) [(.t 22)]),some (21,false)⟩,⟨some 24,(.mv (.t 3)),some (21,false)⟩,⟨some 25,(.bin .gtr (.t 23) (.t 24)),some (21,false)⟩,⟨some 26,(.pick (.t 21) (.k (B true)) (.t 25)),none⟩])
  (.cond (.t 26)
    (.seq (.ops [⟨some 27,(.build [(I 0),(I 0),(I 0),(I 0)] []),none⟩,⟨none,(.store 4 (.t 8) (.t 27)),none⟩,⟨some 9,(.mv (.k (B false))),none⟩])
    .ret)
    .skip))
  (.seq (.ops [⟨some 28,(.mv (.t 1)),none⟩,⟨some 29,(.call (.k (.fn (.func 74) [] [])) [(.t 28)]),none⟩,⟨none,(.store 4 (.t 8) (.t 29)),none⟩,⟨some 9,(.mv (.k (B true))),none⟩])
  .ret)))
def c63 : ICode := b63
theorem w63 : W x Q c63 ks fr H ms = W x Q b63 ks fr H ms := rfl
def r63 : List IRes := [(.cell true 4 8),(.tmp 9)]
theorem t63 : Try.f63.body.bind (trCode Try.prog Try.f63.ntmps) = some (strip c63) := by kernel_rfl
theorem q63 : trRes Try.prog Try.f63.results.toList = some r63 := by kernel_rfl
theorem fn63 : Try.prog.funcs[63]? = some Try.f63 := by kernel_rfl
theorem nn63 : (Try.f63.name == "runtime.NumGoroutine") = false := by kernel_rfl
theorem nt63 : Try.f63.ntmps = 30 := by kernel_rfl
abbrev b82T1 : ICode :=
  (.keep [5] (.seq (.ops [⟨some 20,(.mv (.t 5)),none⟩,⟨some 4,(.mv (.t 20)),none⟩])
  .ret))
def c82T1 : ICode := b82T1
theorem w82T1 : W x Q c82T1 ks fr H ms = W x Q b82T1 ks fr H ms := rfl
/- live: [2,3,5,7] -/
abbrev b82L0 : ICode :=
  (.seq (.ops [⟨some 8,(.bin .lss (.t 7) (.k (I 4))),none⟩])
  (.seq (.cond (.t 8)
    .skip
    (.exit 0))
  (.seq (.block 1 (.seq (.ops [⟨some 9,(.mv (.t 7)),none⟩,⟨some 6,(.mv (.t 9)),none⟩])
  (.draw 0 [] (.early 1 ⟨some 10,(.mv (.t 5)),none⟩
    (.early 1 ⟨some 11,(.mv (.t 6)),none⟩
    (.early 1 ⟨some 12,(.ixP 4 1 (.t 2) (.t 11)),none⟩
    (.early 1 ⟨some 13,(.load false 1 (.t 12)),none⟩
    (.early 1 ⟨some 14,(.mv (.t 6)),none⟩
    (.early 1 ⟨some 15,(.ixP 4 1 (.t 3) (.t 14)),none⟩
    (.early 1 ⟨some 16,(.load false 1 (.t 15)),none⟩
    (.early 1 ⟨some 17,(.bin .mul (.t 13) (.t 16)),none⟩
    (.early 0 ⟨some 18,(.bin .add (.t 10) (.t 17)),none⟩
    (.early 0 ⟨some 5,(.mv (.t 18)),none⟩
    .done)))))))))))))
  (.ops [⟨some 19,(.bin .add (.t 7) (.k (I 1))),none⟩,⟨some 7,(.mv (.t 19)),none⟩]))))
def c82L0 : ICode := b82L0
theorem w82L0 : W x Q c82L0 ks fr H ms = W x Q b82L0 ks fr H ms := rfl
abbrev b82 : ICode :=
  (.seq (.ops [⟨some 2,(.box (.t 0)),none⟩,⟨some 3,(.box (.t 1)),none⟩,⟨some 4,(.mv (.k (I 0))),none⟩])
  (.seq (.ops [⟨some 5,(.mv (.k (I 0))),none⟩])
  (.seq (.seq (.ops [⟨some 7,(.mv (.k (I 0))),none⟩])
  (.block 0 (.loop c82L0)))
  c82T1)))
def c82 : ICode := b82
theorem w82 : W x Q c82 ks fr H ms = W x Q b82 ks fr H ms := rfl
def r82 : List IRes := [(.tmp 4)]
theorem t82 : Try.f82.body.bind (trCode Try.prog Try.f82.ntmps) = some (strip c82) := by kernel_rfl
theorem q82 : trRes Try.prog Try.f82.results.toList = some r82 := by kernel_rfl
theorem fn82 : Try.prog.funcs[82]? = some Try.f82 := by kernel_rfl
theorem nn82 : (Try.f82.name == "runtime.NumGoroutine") = false := by kernel_rfl
theorem nt82 : Try.f82.ntmps = 21 := by kernel_rfl
abbrev b64T1 : ICode :=
  (.keep [5] (.seq (.ops [⟨some 22,(.mv (.t 5)),none⟩,⟨some 4,(.mv (.t 22)),none⟩])
  .ret))
def c64T1 : ICode := b64T1
theorem w64T1 : W x Q c64T1 ks fr H ms = W x Q b64T1 ks fr H ms := rfl
/- live: [3,5,9,10,11] -/
abbrev b64L0 : ICode :=
  (.seq (.ops [⟨some 12,(.bin .lss (.t 11) (.t 10)),none⟩])
  (.seq (.cond (.t 12)
    .skip
    (.exit 0))
  (.seq (.block 1 (.seq (.ops [⟨some 13,(.ixS 4 (.t 9) (.t 11)),none⟩,⟨some 14,(.load true 4 (.t 13)),none⟩,⟨some 7,(.alloc [(I 0),(I 0),(I 0),(I 0)]),none⟩,⟨none,(.store 4 (.t 7) (.t 14)),none⟩])
  (.ops [⟨some 15,(.mv (.t 5)),none⟩,⟨some 16,(.load true 4 (.t 7)),none⟩,⟨some 17,(.load true 4 (.t 3)),none⟩,⟨some 18,(.call (.k (.fn (.func 82) [] [])) [(.t 16),(.t 17)]),none⟩,⟨some 19,(.bslice 1 1 [(I 0)] [(0,1,(.t 18))]),none⟩,⟨some 20,(.append 1 8 (.t 15) (.t 19)),none⟩,⟨some 5,(.mv (.t 20)),none⟩])))
  (.ops [⟨some 21,(.bin .add (.t 11) (.k (I 1))),none⟩,⟨some 11,(.mv (.t 21)),none⟩]))))
def c64L0 : ICode := b64L0
theorem w64L0 : W x Q c64L0 ks fr H ms = W x Q b64L0 ks fr H ms := rfl
abbrev b64 : ICode :=
  (.seq (.ops [⟨some 2,(.box (.t 0)),none⟩,⟨some 3,(.box (.t 1)),none⟩,⟨some 4,(.mv (.k nilSl)),none⟩])
  (.seq (.ops [⟨some 5,(.mv (.k nilSl)),none⟩])
  (.seq (.seq (.ops [⟨some 8,(.fldA 0 (.t 2)),none⟩,⟨some 9,(.load false 1 (.t 8)),none⟩,⟨some 10,(.len (.t 9)),none⟩,⟨some 11,(.mv (.k (I 0))),none⟩])
  (.block 0 (.loop c64L0)))
  c64T1)))
def c64 : ICode := b64
theorem w64 : W x Q c64 ks fr H ms = W x Q b64 ks fr H ms := rfl
def r64 : List IRes := [(.tmp 4)]
theorem t64 : Try.f64.body.bind (trCode Try.prog Try.f64.ntmps) = some (strip c64) := by kernel_rfl
theorem q64 : trRes Try.prog Try.f64.results.toList = some r64 := by kernel_rfl
theorem fn64 : Try.prog.funcs[64]? = some Try.f64 := by kernel_rfl
theorem nn64 : (Try.f64.name == "runtime.NumGoroutine") = false := by kernel_rfl
theorem nt64 : Try.f64.ntmps = 23 := by kernel_rfl
abbrev b102 : ICode :=
  (.seq (.ops [⟨some 2,(.mv (.k (I 0))),none⟩])
  (.seq (.ops [⟨some 3,(.mv (.t 0)),none⟩,⟨some 4,(.mv (.t 0)),none⟩,⟨some 5,(.un .neg (.t 4)),none⟩,⟨some 6,(.mx (.t 3) (.t 5)),none⟩,⟨some 2,(.mv (.t 6)),none⟩])
  .ret))
def c102 : ICode := b102
theorem w102 : W x Q c102 ks fr H ms = W x Q b102 ks fr H ms := rfl
def r102 : List IRes := [(.tmp 2)]
theorem t102 : Try.f102.body.bind (trCode Try.prog Try.f102.ntmps) = some (strip c102) := by kernel_rfl
theorem q102 : trRes Try.prog Try.f102.results.toList = some r102 := by kernel_rfl
theorem fn102 : Try.prog.funcs[102]? = some Try.f102 := by kernel_rfl
theorem nn102 : (Try.f102.name == "runtime.NumGoroutine") = false := by kernel_rfl
theorem nt102 : Try.f102.ntmps = 7 := by kernel_rfl
abbrev b65T1 : ICode :=
  (.keep [] (.seq (.ops [⟨some 4,(.mv (.k (B true))),none⟩])
  .ret))
def c65T1 : ICode := b65T1
theorem w65T1 : W x Q c65T1 ks fr H ms = W x Q b65T1 ks fr H ms := rfl
/- live: [2,3,6] -/
abbrev b65L0 : ICode :=
  (.seq (.ops [⟨some 7,(.bin .lss (.t 6) (.k (I 4))),none⟩])
  (.seq (.cond (.t 7)
    .skip
    (.exit 0))
  (.seq (.block 1 (.seq (.ops [⟨some 8,(.mv (.t 6)),none⟩,⟨some 5,(.mv (.t 8)),none⟩])
  (.seq (.draw 0 [] (.early 0 ⟨some 9,(.mv (.t 5)),none⟩
    (.early 0 ⟨some 10,(.ixP 4 1 (.t 2) (.t 9)),none⟩
    (.early 0 ⟨some 11,(.load false 1 (.t 10)),none⟩
    (.early 0 ⟨some 12,(.bin .neq (.t 11) (.k (I 0))),none⟩
    (.early 0 ⟨some 13,(.mv (.t 12)),none⟩
    (.early 1 ⟨some 14,(.mv (.t 5)),some (13,true)⟩
    (.early 1 ⟨some 15,(.ixP 4 1 (.t 2) (.t 14)),some (13,true)⟩
    (.early 1 ⟨some 16,(.load false 1 (.t 15)),some (13,true)⟩
    (.early 1 ⟨some 17,(.bin .gtr (.t 16) (.k (I 0))),some (13,true)⟩
    (.early 1 ⟨some 18,(.mv (.t 5)),some (13,true)⟩
    (.early 1 ⟨some 19,(.ixP 4 1 (.t 3) (.t 18)),some (13,true)⟩
    (.early 1 ⟨some 20,(.load false 1 (.t 19)),some (13,true)⟩
    (.early 1 ⟨some 21,(.bin .gtr (.t 20) (.k (I 0))),some (13,true)⟩
    (.early 0 ⟨some 22,(.eqb true (.t 17) (.t 21)),some (13,true)⟩
    (.early 0 ⟨some 23,(.mv (.t 22)),some (13,true)⟩
    (.early 1 ⟨some 24,(.mv (.t 5)),some (23,false)⟩
    (.early 1 ⟨some 25,(.ixP 4 1 (.t 2) (.t 24)),some (23,false)⟩
    (.early 1 ⟨some 26,(.load false 1 (.t 25)),some (23,false)⟩
    (.early 1 ⟨some 27,(.call (.k (.fn (.func 102) [] [])) [(.t 26)]),some (23,false)⟩
    (.early 1 ⟨some 28,(.mv (.t 5)),some (23,false)⟩
    (.early 1 ⟨some 29,(.ixP 4 1 (.t 3) (.t 28)),some (23,false)⟩
    (.early 1 ⟨some 30,(.load false 1 (.t 29)),some (23,false)⟩
    (.step 0 0 ⟨some 31,(.call (.k (.fn (.func 102) [] [])) [(.t 30)]),some (23,false)⟩
    (.early 0 ⟨some 32,(.bin .gtr (.t 27) (.t 31)),some (23,false)⟩
    (.early 0 ⟨some 33,(.pick (.t 23) (.k (B true)) (.t 32)),some (13,true)⟩
    (.early 0 ⟨some 34,(.pick (.t 13) (.t 33) (.k (B false))),none⟩
    .done)))))))))))))))))))))))))))
  (.keep [2,3,6,34] (.cond (.t 34)
    (.seq (.ops [⟨some 4,(.mv (.k (B false))),none⟩])
    .ret)
    .skip)))))
  (.ops [⟨some 35,(.bin .add (.t 6) (.k (I 1))),none⟩,⟨some 6,(.mv (.t 35)),none⟩]))))
def c65L0 : ICode := b65L0
theorem w65L0 : W x Q c65L0 ks fr H ms = W x Q b65L0 ks fr H ms := rfl
abbrev b65 : ICode :=
  (.seq (.ops [⟨some 2,(.box (.t 0)),none⟩,⟨some 3,(.box (.t 1)),none⟩,⟨some 4,(.mv (.k (B false))),none⟩])
  (.seq (.seq (.ops [⟨some 6,(.mv (.k (I 0))),none⟩])
  (.block 0 (.loop c65L0)))
  c65T1))
def c65 : ICode := b65
theorem w65 : W x Q c65 ks fr H ms = W x Q b65 ks fr H ms := rfl
def r65 : List IRes := [(.tmp 4)]
theorem t65 : Try.f65.body.bind (trCode Try.prog Try.f65.ntmps) = some (strip c65) := by kernel_rfl
theorem q65 : trRes Try.prog Try.f65.results.toList = some r65 := by kernel_rfl
theorem fn65 : Try.prog.funcs[65]? = some Try.f65 := by kernel_rfl
theorem nn65 : (Try.f65.name == "runtime.NumGoroutine") = false := by kernel_rfl
theorem nt65 : Try.f65.ntmps = 36 := by kernel_rfl
abbrev b17 : ICode :=
  (.seq (.ops [⟨some 4,(.mv (.k nilSl)),none⟩,⟨some 5,(.mv (.k (I 0))),none⟩])
  (.seq (.ops [⟨some 10,(.mv (.t 0)),none⟩,⟨some 11,(.call (.k (.fn (.func 62) [] [])) [(.t 10)]),none⟩,⟨some 9,(.mv (.t 11)),none⟩,⟨some 12,(.ext (.t 9) 0),none⟩,⟨some 13,(.ext (.t 9) 1),none⟩,⟨some 6,(.alloc [nilSl,(I 0)]),none⟩,⟨none,(.store 2 (.t 6) (.t 12)),none⟩,⟨some 7,(.mv (.t 13)),none⟩])
  (.seq (.seq (.ops [⟨some 14,(.mv (.t 7)),none⟩,⟨some 15,(.un .not (.t 14)),none⟩])
  (.cond (.t 15)
    (.seq (.ops [⟨some 4,(.mv (.k nilSl)),none⟩,⟨some 5,(.mv (.k (I 2))),none⟩])
    .ret)
    .skip))
  (.seq (.ops [⟨some 17,(.load true 2 (.t 6)),none⟩,⟨some 18,(.mv (.t 1)),none⟩,⟨some 19,(.call (.k (.fn (.func 63) [] [])) [(.t 17),(.t 18),(.k (I (-1000))),(.k (I 1000))]),none⟩,⟨some 16,(.mv (.t 19)),none⟩,⟨some 20,(.ext (.t 16) 0),none⟩,⟨some 21,(.ext (.t 16) 1),none⟩,⟨some 8,(.alloc [(I 0),(I 0),(I 0),(I 0)]),none⟩,⟨none,(.store 4 (.t 8) (.t 20)),none⟩,⟨some 7,(.mv (.t 21)),none⟩])
  (.seq (.seq (.ops [⟨some 22,(.mv (.t 7)),none⟩,⟨some 23,(.un .not (.t 22)),none⟩])
  (.cond (.t 23)
    (.seq (.ops [⟨some 4,(.mv (.k nilSl)),none⟩,⟨some 5,(.mv (.k (I 2))),none⟩])
    .ret)
    .skip))
  (.seq (.ops [⟨some 24,(.load true 2 (.t 6)),none⟩,⟨some 25,(.load true 4 (.t 8)),none⟩,⟨some 26,(.call (.k (.fn (.func 64) [] [])) [(.t 24),(.t 25)]),none⟩,⟨some 4,(.mv (.t 26)),none⟩,⟨some 5,(.mv (.k (I 0))),none⟩])
  .ret))))))
def c17 : ICode := b17
theorem w17 : W x Q c17 ks fr H ms = W x Q b17 ks fr H ms := rfl
def r17 : List IRes := [(.tmp 4),(.tmp 5)]
theorem t17 : Try.f17.body.bind (trCode Try.prog Try.f17.ntmps) = some (strip c17) := by kernel_rfl
theorem q17 : trRes Try.prog Try.f17.results.toList = some r17 := by kernel_rfl
theorem fn17 : Try.prog.funcs[17]? = some Try.f17 := by kernel_rfl
theorem nn17 : (Try.f17.name == "runtime.NumGoroutine") = false := by kernel_rfl
theorem nt17 : Try.f17.ntmps = 27 := by kernel_rfl
abbrev b25 : ICode :=
  (.seq (.ops [⟨some 0,(.mv (.k (B false))),none⟩])
  (.seq (.ops [⟨some 4,(.bslice 1 2 [(I 0)] [(0,1,(.k (I 1))),(1,1,(.k (I 2)))]),none⟩,⟨some 5,(.bslice 1 1 [nilSl] [(0,1,(.t 4))]),none⟩,⟨some 6,(.bslice 1 2 [(I 0)] [(0,1,(.k (I 3))),(1,1,(.k (I 4)))]),none⟩,⟨some 7,(.call (.k (.fn (.func 17) [] [])) [(.t 5),(.t 6)]),none⟩,⟨some 3,(.mv (.t 7)),none⟩,⟨some 8,(.ext (.t 3) 0),none⟩,⟨some 9,(.ext (.t 3) 1),none⟩,⟨some 1,(.mv (.t 8)),none⟩,⟨some 2,(.mv (.t 9)),none⟩])
  (.seq (.ops [⟨some 10,(.mv (.t 2)),none⟩,⟨some 11,(.bin .eql (.t 10) (.k (I 0))),none⟩,⟨some 12,(.mv (.t 11)),none⟩,⟨some 13,(.mv (.t 1)),some (12,true)⟩,⟨some 14,(.bslice 1 1 [(I 0)] [(0,1,(.k (I 11)))]),some (12,true)⟩,⟨some 15,(.call (.k (.fn (.func 22) [] [])) [(.t 13),(.t 14)]),some (12,true)⟩,⟨some 16,(.pick (.t 12) (.t 15) (.k (B false))),none⟩,⟨some 0,(.mv (.t 16)),none⟩])
  .ret)))
def c25 : ICode := b25
theorem w25 : W x Q c25 ks fr H ms = W x Q b25 ks fr H ms := rfl
def r25 : List IRes := [(.tmp 0)]
theorem t25 : Try.f25.body.bind (trCode Try.prog Try.f25.ntmps) = some (strip c25) := by kernel_rfl
theorem q25 : trRes Try.prog Try.f25.results.toList = some r25 := by kernel_rfl
theorem fn25 : Try.prog.funcs[25]? = some Try.f25 := by kernel_rfl
theorem nn25 : (Try.f25.name == "runtime.NumGoroutine") = false := by kernel_rfl
theorem nt25 : Try.f25.ntmps = 17 := by kernel_rfl
end Go.Proofs.Ytipfjfmdjmaflaa
