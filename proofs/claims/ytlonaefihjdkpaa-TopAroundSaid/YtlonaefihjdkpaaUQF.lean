/- The code of some functions of the program,cleaned: printed by a program of mine,checked here. -/
import Derived.Test.YtlonaefihjdkpaaProg
import Derived.Test.YtlonaefihjdkpaaAS
import Derived.Test.YtlonaefihjdkpaaUCE
import Derived.KernelRfl
namespace Go.Proofs.Ytlonaefihjdkpaa
open Go.Abs AVal
variable {x : Cx} {Q : QT} {ks : List Kont} {fr : Fr} {H : AHeap} {ms : List Nat}
/- live: [0,2,3,11,95,96,97] -/
abbrev b14T0 : ICode :=
  (.keep [0] (.seq (.ops [⟨some 12,(.mv (.t 0)),none⟩,⟨some 13,(.call (.k (.fn (.func 26) [] [])) [(.t 12)]),none⟩,⟨some 4,(.alloc [nilSl]),none⟩,⟨none,(.store 1 (.t 4) (.t 13)),none⟩])
  (.seq (.ops [⟨some 5,(.alloc [nilSl]),none⟩,⟨some 6,(.alloc [nilSl]),none⟩])
  (.seq (.ops [⟨some 7,(.alloc [(I 0)]),none⟩,⟨none,(.store 1 (.t 7) (.k (I 0))),none⟩])
  (.seq (.ops [⟨some 8,(.alloc [(.val .nilFunc)]),none⟩])
  (.seq (.ops [⟨some 14,(.mkfn (.func 28) [] [(.t 7),(.t 6),(.t 5),(.t 4),(.t 8)]),none⟩,⟨none,(.store 1 (.t 8) (.t 14)),none⟩])
  (.seq (.ops [⟨some 15,(.load false 1 (.t 8)),none⟩,⟨some 16,(.call (.t 15) [(.k (I 0)),(.k (I 0)),(.k (I 0))]),none⟩])
  (.seq (.ops [⟨some 17,(.load false 1 (.t 5)),none⟩,⟨some 2,(.mv (.t 17)),none⟩,⟨some 3,(.mv (.k (I 0))),none⟩])
  .ret))))))))
def c14T0 : ICode := b14T0
theorem w14T0 : W x Q c14T0 ks fr H ms = W x Q b14T0 ks fr H ms := rfl
abbrev b14 : ICode :=
  (.seq (.ops [⟨some 2,(.mv (.k nilSl)),none⟩,⟨some 3,(.mv (.k (I 0))),none⟩])
  (.seq (.seq (.ops [⟨some 9,(.mv (.t 0)),none⟩,⟨some 10,(.call (.k (.fn (.func 25) [] [])) [(.t 9)]),none⟩,⟨some 11,(.un .not (.t 10)),none⟩])
  (.cond (.t 11)
    (.seq (.ops [⟨some 2,(.mv (.k nilSl)),none⟩,⟨some 3,(.mv (.k (I 2))),none⟩])
    .ret)
    .skip))
  c14T0))
def c14 : ICode := b14
theorem w14 : W x Q c14 ks fr H ms = W x Q b14 ks fr H ms := rfl
def r14 : List IRes := [(.tmp 2),(.tmp 3)]
theorem t14 : Try.f14.body.bind (trCode Try.prog Try.f14.ntmps) = some (strip c14) := by kernel_rfl
theorem q14 : trRes Try.prog Try.f14.results.toList = some r14 := by kernel_rfl
theorem fn14 : Try.prog.funcs[14]? = some Try.f14 := by kernel_rfl
theorem nn14 : (Try.f14.name == "runtime.NumGoroutine") = false := by kernel_rfl
theorem nt14 : Try.f14.ntmps = 18 := by kernel_rfl
abbrev b11T1 : ICode :=
  (.keep [0] (.seq (.ops [⟨some 29,(.mv (.t 0)),none⟩,⟨some 30,(.len (.t 29)),none⟩,⟨some 31,(.bin .geq (.t 30) (.k (I 1))),none⟩,⟨some 32,(.mv (.t 31)),none⟩,⟨some 33,(.mv (.t 0)),some (32,true)⟩,⟨some 34,(.len (.t 33)),some (32,true)⟩,⟨some 35,(.bin .leq (.t 34) (.k (I 6))),some (32,true)⟩,⟨some 36,(.pick (.t 32) (.t 35) (.k (B false))),none⟩,⟨some 2,(.mv (.t 36)),none⟩])
  .ret))
def c11T1 : ICode := b11T1
theorem w11T1 : W x Q c11T1 ks fr H ms = W x Q b11T1 ks fr H ms := rfl
/- live: [0,5,6,7] -/
abbrev b11L0 : ICode :=
  (.seq (.ops [⟨some 8,(.bin .lss (.t 7) (.t 6)),none⟩])
  (.seq (.cond (.t 8)
    .skip
    (.exit 0))
  (.seq (.block 1 (.seq (.ops [⟨some 9,(.mv (.t 7)),none⟩,⟨some 10,(.ixS 1 (.t 5) (.t 7)),none⟩,⟨some 11,(.load false 1 (.t 10)),none⟩,⟨some 3,(.mv (.t 9)),none⟩,⟨some 4,(.mv (.t 11)),none⟩])
  (.seq (.ops [⟨some 12,(.mv (.t 4)),none⟩,⟨some 13,(.bin .lss (.t 12) (.k (I 0))),none⟩,⟨some 14,(.mv (.t 13)),none⟩,⟨some 15,(.mv (.t 4)),some (14,false)⟩,⟨some 16,(.mv (.t 0)),some (14,false)⟩,⟨some 17,(.len (.t 16)),some (14,false)⟩,⟨some 18,(.bin .shl (.k (I 1)) (.t 17)),some (14,false)⟩,⟨some 19,(.bin .geq (.t 15) (.t 18)),some (14,false)⟩,⟨some 20,(.pick (.t 14) (.k (B true)) (.t 19)),none⟩,⟨some 21,(.mv (.t 20)),none⟩,⟨some 22,(.mv (.t 4)),some (21,false)⟩,⟨some 23,(.mv (.t 3)),some (21,false)⟩,⟨some 24,(.bin .shr (.t 22) (.t 23)),some (21,false)⟩,⟨some 25,(.bin .and (.t 24) (.k (I 1))),some (21,false)⟩,⟨some 26,(.bin .eql (.t 25) (.k (I 1))),some (21,false)⟩,⟨some 27,(.pick (.t 21) (.k (B true)) (.t 26)),none⟩])
  (.cond (.t 27)
    (.seq (.ops [⟨some 2,(.mv (.k (B false))),none⟩])
    .ret)
    .skip))))
  (.ops [⟨some 28,(.bin .add (.t 7) (.k (I 1))),none⟩,⟨some 7,(.mv (.t 28)),none⟩]))))
def c11L0 : ICode := b11L0
theorem w11L0 : W x Q c11L0 ks fr H ms = W x Q b11L0 ks fr H ms := rfl
abbrev b11 : ICode :=
  (.seq (.ops [⟨some 2,(.mv (.k (B false))),none⟩])
  (.seq (.seq (.ops [⟨some 5,(.mv (.t 0)),none⟩,⟨some 6,(.len (.t 5)),none⟩,⟨some 7,(.mv (.k (I 0))),none⟩])
  (.block 0 (.loop c11L0)))
  c11T1))
def c11 : ICode := b11
theorem w11 : W x Q c11 ks fr H ms = W x Q b11 ks fr H ms := rfl
def r11 : List IRes := [(.tmp 2)]
theorem t11 : Try.f11.body.bind (trCode Try.prog Try.f11.ntmps) = some (strip c11) := by kernel_rfl
theorem q11 : trRes Try.prog Try.f11.results.toList = some r11 := by kernel_rfl
theorem fn11 : Try.prog.funcs[11]? = some Try.f11 := by kernel_rfl
theorem nn11 : (Try.f11.name == "runtime.NumGoroutine") = false := by kernel_rfl
theorem nt11 : Try.f11.ntmps = 37 := by kernel_rfl
/- live: [7,8,9,10,19,20,21] -/
abbrev b12 : ICode :=
  (.seq (.ops [⟨some 2,(.mv (.k nilSl)),none⟩,⟨some 3,(.mv (.k (I 0))),none⟩])
  (.seq (.seq (.ops [⟨some 4,(.mv (.t 0)),none⟩,⟨some 5,(.call (.k (.fn (.func 25) [] [])) [(.t 4)]),none⟩,⟨some 6,(.un .not (.t 5)),none⟩])
  (.cond (.t 6)
    (.seq (.ops [⟨some 2,(.mv (.k nilSl)),none⟩,⟨some 3,(.mv (.k (I 2))),none⟩])
    .ret)
    .skip))
  (.seq (.ops [⟨some 7,(.mv (.t 0)),none⟩,⟨some 8,(.call (.k (.fn (.func 26) [] [])) [(.t 7)]),none⟩,⟨some 2,(.mv (.t 8)),none⟩,⟨some 3,(.mv (.k (I 0))),none⟩])
  .ret)))
def c12 : ICode := b12
theorem w12 : W x Q c12 ks fr H ms = W x Q b12 ks fr H ms := rfl
def r12 : List IRes := [(.tmp 2),(.tmp 3)]
theorem t12 : Try.f12.body.bind (trCode Try.prog Try.f12.ntmps) = some (strip c12) := by kernel_rfl
theorem q12 : trRes Try.prog Try.f12.results.toList = some r12 := by kernel_rfl
theorem fn12 : Try.prog.funcs[12]? = some Try.f12 := by kernel_rfl
theorem nn12 : (Try.f12.name == "runtime.NumGoroutine") = false := by kernel_rfl
theorem nt12 : Try.f12.ntmps = 9 := by kernel_rfl
abbrev b25T4 : ICode :=
  (.keep [] (.seq (.ops [⟨some 2,(.mv (.k (B true))),none⟩])
  .ret))
def c25T4 : ICode := b25T4
theorem w25T4 : W x Q c25T4 ks fr H ms = W x Q b25T4 ks fr H ms := rfl
abbrev b25T3 : ICode :=
  (.keep [3,14,15,16] (.ops [⟨some 36,(.bin .add (.t 16) (.k (I 1))),none⟩,⟨some 16,(.mv (.t 36)),none⟩]))
def c25T3 : ICode := b25T3
theorem w25T3 : W x Q c25T3 ks fr H ms = W x Q b25T3 ks fr H ms := rfl
abbrev b25T2 : ICode :=
  (.keep [3,14,15,16] (.seq (.block 1 (.seq (.ops [⟨some 18,(.mv (.t 16)),none⟩,⟨some 19,(.ixS 1 (.t 14) (.t 16)),none⟩,⟨some 20,(.load false 1 (.t 19)),none⟩,⟨some 4,(.mv (.t 18)),none⟩,⟨some 5,(.mv (.t 20)),none⟩])
  (.seq (.ops [⟨some 21,(.mv (.t 5)),none⟩,⟨some 22,(.bin .lss (.t 21) (.k (I 0))),none⟩,⟨some 23,(.mv (.t 22)),none⟩,⟨some 24,(.mv (.t 5)),some (23,false)⟩,⟨some 25,(.mv (.t 3)),some (23,false)⟩,⟨some 26,(.bin .shl (.k (I 1)) (.t 25)),some (23,false)⟩,⟨some 27,(.bin .geq (.t 24) (.t 26)),some (23,false)⟩,⟨some 28,(.pick (.t 23) (.k (B true)) (.t 27)),none⟩,⟨some 29,(.mv (.t 28)),none⟩,⟨some 30,(.mv (.t 5)),some (29,false)⟩,⟨some 31,(.mv (.t 4)),some (29,false)⟩,⟨some 32,(.bin .shr (.t 30) (.t 31)),some (29,false)⟩,⟨some 33,(.bin .and (.t 32) (.k (I 1))),some (29,false)⟩,⟨some 34,(.bin .eql (.t 33) (.k (I 1))),some (29,false)⟩,⟨some 35,(.pick (.t 29) (.k (B true)) (.t 34)),none⟩])
  (.cond (.t 35)
    (.seq (.ops [⟨some 2,(.mv (.k (B false))),none⟩])
    .ret)
    .skip))))
  c25T3))
def c25T2 : ICode := b25T2
theorem w25T2 : W x Q c25T2 ks fr H ms = W x Q b25T2 ks fr H ms := rfl
/- live: [3,14,15,16] -/
abbrev b25L1 : ICode :=
  (.seq (.ops [⟨some 17,(.bin .lss (.t 16) (.t 15)),none⟩])
  (.seq (.cond (.t 17)
    .skip
    (.exit 0))
  c25T2))
def c25L1 : ICode := b25L1
theorem w25L1 : W x Q c25L1 ks fr H ms = W x Q b25L1 ks fr H ms := rfl
abbrev b25T0 : ICode :=
  (.keep [0,3] (.seq (.seq (.ops [⟨some 14,(.mv (.t 0)),none⟩,⟨some 15,(.len (.t 14)),none⟩,⟨some 16,(.mv (.k (I 0))),none⟩])
  (.block 0 (.loop c25L1)))
  c25T4))
def c25T0 : ICode := b25T0
theorem w25T0 : W x Q c25T0 ks fr H ms = W x Q b25T0 ks fr H ms := rfl
abbrev b25 : ICode :=
  (.seq (.ops [⟨some 2,(.mv (.k (B false))),none⟩])
  (.seq (.ops [⟨some 6,(.mv (.t 0)),none⟩,⟨some 7,(.len (.t 6)),none⟩,⟨some 3,(.mv (.t 7)),none⟩])
  (.seq (.seq (.ops [⟨some 8,(.mv (.t 3)),none⟩,⟨some 9,(.bin .lss (.t 8) (.k (I 1))),none⟩,⟨some 10,(.mv (.t 9)),none⟩,⟨some 11,(.mv (.t 3)),some (10,false)⟩,⟨some 12,(.bin .gtr (.t 11) (.k (I 6))),some (10,false)⟩,⟨some 13,(.pick (.t 10) (.k (B true)) (.t 12)),none⟩])
  (.cond (.t 13)
    (.seq (.ops [⟨some 2,(.mv (.k (B false))),none⟩])
    .ret)
    .skip))
  c25T0)))
def c25 : ICode := b25
theorem w25 : W x Q c25 ks fr H ms = W x Q b25 ks fr H ms := rfl
def r25 : List IRes := [(.tmp 2)]
theorem t25 : Try.f25.body.bind (trCode Try.prog Try.f25.ntmps) = some (strip c25) := by kernel_rfl
theorem q25 : trRes Try.prog Try.f25.results.toList = some r25 := by kernel_rfl
theorem fn25 : Try.prog.funcs[25]? = some Try.f25 := by kernel_rfl
theorem nn25 : (Try.f25.name == "runtime.NumGoroutine") = false := by kernel_rfl
theorem nt25 : Try.f25.ntmps = 37 := by kernel_rfl
abbrev b26T11 : ICode :=
  (.keep [3] (.seq (.ops [⟨some 66,(.mv (.t 3)),none⟩,⟨some 67,(.call (.k (.fn (.func 51) [] [])) [(.t 66),(.k (.fn (.func 52) [] []))]),none⟩])
  (.seq (.ops [⟨some 68,(.mv (.t 3)),none⟩,⟨some 2,(.mv (.t 68)),none⟩])
  .ret)))
def c26T11 : ICode := b26T11
theorem w26T11 : W x Q c26T11 ks fr H ms = W x Q b26T11 ks fr H ms := rfl
abbrev b26T10 : ICode :=
  (.keep [0,3,8,9] (.ops [⟨some 65,(.bin .add (.t 9) (.k (I 1))),none⟩,⟨some 9,(.mv (.t 65)),none⟩]))
def c26T10 : ICode := b26T10
theorem w26T10 : W x Q c26T10 ks fr H ms = W x Q b26T10 ks fr H ms := rfl
abbrev b26T9 : ICode :=
  (.keep [0,3,4,5,8,9] (.ops [⟨some 18,(.mv (.t 5)),none⟩,⟨some 19,(.bin .add (.t 18) (.k (I 1))),none⟩,⟨some 5,(.mv (.t 19)),none⟩]))
def c26T9 : ICode := b26T9
theorem w26T9 : W x Q c26T9 ks fr H ms = W x Q b26T9 ks fr H ms := rfl
abbrev b26T8 : ICode :=
  (.keep [0,3,4,5,6,8,9] (.ops [⟨some 41,(.mv (.t 6)),none⟩,⟨some 42,(.bin .add (.t 41) (.k (I 1))),none⟩,⟨some 6,(.mv (.t 42)),none⟩]))
def c26T8 : ICode := b26T8
theorem w26T8 : W x Q c26T8 ks fr H ms = W x Q b26T8 ks fr H ms := rfl
abbrev b26T7 : ICode :=
  (.keep [0,3,4,5,6,8,9] (.seq (.block 5 (.seq (.ops [⟨some 43,(.mv (.t 6)),none⟩,⟨some 44,(.mv (.t 5)),none⟩,⟨some 45,(.bin .neq (.t 43) (.t 44)),none⟩,⟨some 46,(.mv (.t 45)),none⟩,⟨some 47,(.mv (.t 0)),some (46,true)⟩,⟨some 48,(.mv (.t 5)),some (46,true)⟩,⟨some 49,(.mv (.t 6)),some (46,true)⟩,⟨some 50,(.call (.k (.fn (.func 50) [] [])) [(.t 47),(.t 48),(.t 49)]),some (46,true)⟩,⟨some 51,(.pick (.t 46) (.t 50) (.k (B false))),none⟩,⟨some 52,(.mv (.t 51)),none⟩,⟨some 53,(.mv (.t 0)),some (52,true)⟩,⟨some 54,(.mv (.t 6)),some (52,true)⟩,⟨some 55,(.mv (.t 4)),some (52,true)⟩,⟨some 56,(.call (.k (.fn (.func 50) [] [])) [(.t 53),(.t 54),(.t 55)]),some (52,true)⟩,⟨some 57,(.pick (.t 52) (.t 56) (.k (B false))),none⟩])
  (.cond (.t 57)
    (.ops [⟨some 58,(.mv (.t 3)),none⟩,⟨some 59,(.mv (.t 4)),none⟩,⟨some 60,(.mv (.t 5)),none⟩,⟨some 61,(.mv (.t 6)),none⟩,⟨some 62,(.bslice 1 3 [(I 0)] [(0,1,(.t 59)),(1,1,(.t 60)),(2,1,(.t 61))]),none⟩,⟨some 63,(.bslice 1 1 [nilSl] [(0,1,(.t 62))]),none⟩,⟨some 64,(.append 1 24 (.t 58) (.t 63)),none⟩,⟨some 3,(.mv (.t 64)),none⟩])
    .skip)))
  c26T8))
def c26T7 : ICode := b26T7
theorem w26T7 : W x Q c26T7 ks fr H ms = W x Q b26T7 ks fr H ms := rfl
/- live: [0,3,4,5,6,8,9] -/
abbrev b26L6 : ICode :=
  (.seq (.seq (.ops [⟨some 37,(.mv (.t 6)),none⟩,⟨some 38,(.mv (.t 0)),none⟩,⟨some 39,(.len (.t 38)),none⟩,⟨some 40,(.bin .lss (.t 37) (.t 39)),none⟩])
  (.cond (.t 40)
    .skip
    (.exit 4)))
  c26T7)
def c26L6 : ICode := b26L6
theorem w26L6 : W x Q c26L6 ks fr H ms = W x Q b26L6 ks fr H ms := rfl
abbrev b26T5 : ICode :=
  (.view (.keep [0,3,4,5,8,9] (.seq (.ops [⟨some 35,(.mv (.t 4)),none⟩,⟨some 36,(.bin .add (.t 35) (.k (I 1))),none⟩,⟨some 6,(.mv (.t 36)),none⟩])
  (.block 4 (.loop c26L6)))))
def c26T5 : ICode := b26T5
theorem w26T5 : W x Q c26T5 ks fr H ms = W x Q b26T5 ks fr H ms := rfl
abbrev b26T4 : ICode :=
  (.keep [0,3,4,5,8,9] (.seq (.seq (.ops [⟨some 25,(.mv (.t 0)),none⟩,⟨some 26,(.mv (.t 5)),none⟩,⟨some 27,(.mv (.t 4)),none⟩,⟨some 28,(.call (.k (.fn (.func 50) [] [])) [(.t 25),(.t 26),(.t 27)]),none⟩])
  (.cond (.t 28)
    (.ops [⟨some 29,(.mv (.t 3)),none⟩,⟨some 30,(.mv (.t 4)),none⟩,⟨some 31,(.mv (.t 5)),none⟩,⟨some 32,(.bslice 1 2 [(I 0)] [(0,1,(.t 30)),(1,1,(.t 31))]),none⟩,⟨some 33,(.bslice 1 1 [nilSl] [(0,1,(.t 32))]),none⟩,⟨some 34,(.append 1 24 (.t 29) (.t 33)),none⟩,⟨some 3,(.mv (.t 34)),none⟩])
    .skip))
  c26T5))
def c26T4 : ICode := b26T4
theorem w26T4 : W x Q c26T4 ks fr H ms = W x Q b26T4 ks fr H ms := rfl
abbrev b26T3 : ICode :=
  (.keep [0,3,4,5,8,9] (.seq (.block 3 (.seq (.seq (.ops [⟨some 20,(.mv (.t 0)),none⟩,⟨some 21,(.mv (.t 4)),none⟩,⟨some 22,(.mv (.t 5)),none⟩,⟨some 23,(.call (.k (.fn (.func 50) [] [])) [(.t 20),(.t 21),(.t 22)]),none⟩,⟨some 24,(.un .not (.t 23)),none⟩])
  (.cond (.t 24)
    (.exit 3)
    .skip))
  c26T4))
  c26T9))
def c26T3 : ICode := b26T3
theorem w26T3 : W x Q c26T3 ks fr H ms = W x Q b26T3 ks fr H ms := rfl
/- live: [0,3,4,5,8,9] -/
abbrev b26L2 : ICode :=
  (.seq (.seq (.ops [⟨some 14,(.mv (.t 5)),none⟩,⟨some 15,(.mv (.t 0)),none⟩,⟨some 16,(.len (.t 15)),none⟩,⟨some 17,(.bin .lss (.t 14) (.t 16)),none⟩])
  (.cond (.t 17)
    .skip
    (.exit 2)))
  c26T3)
def c26L2 : ICode := b26L2
theorem w26L2 : W x Q c26L2 ks fr H ms = W x Q b26L2 ks fr H ms := rfl
abbrev b26T1 : ICode :=
  (.keep [0,3,8,9] (.seq (.block 1 (.seq (.ops [⟨some 11,(.mv (.t 9)),none⟩,⟨some 4,(.mv (.t 11)),none⟩])
  (.seq (.ops [⟨some 12,(.mv (.t 4)),none⟩,⟨some 13,(.bin .add (.t 12) (.k (I 1))),none⟩,⟨some 5,(.mv (.t 13)),none⟩])
  (.block 2 (.loop c26L2)))))
  c26T10))
def c26T1 : ICode := b26T1
theorem w26T1 : W x Q c26T1 ks fr H ms = W x Q b26T1 ks fr H ms := rfl
/- live: [0,3,8,9] -/
abbrev b26L0 : ICode :=
  (.seq (.ops [⟨some 10,(.bin .lss (.t 9) (.t 8)),none⟩])
  (.seq (.cond (.t 10)
    .skip
    (.exit 0))
  c26T1))
def c26L0 : ICode := b26L0
theorem w26L0 : W x Q c26L0 ks fr H ms = W x Q b26L0 ks fr H ms := rfl
abbrev b26 : ICode :=
  (.seq (.ops [⟨some 2,(.mv (.k nilSl)),none⟩])
  (.seq (.ops [⟨some 3,(.mv (.k nilSl)),none⟩])
  (.seq (.seq (.ops [⟨some 7,(.mv (.t 0)),none⟩,⟨some 8,(.len (.t 7)),none⟩,⟨some 9,(.mv (.k (I 0))),none⟩])
  (.block 0 (.loop c26L0)))
  c26T11)))
def c26 : ICode := b26
theorem w26 : W x Q c26 ks fr H ms = W x Q b26 ks fr H ms := rfl
def r26 : List IRes := [(.tmp 2)]
theorem t26 : Try.f26.body.bind (trCode Try.prog Try.f26.ntmps) = some (strip c26) := by kernel_rfl
theorem q26 : trRes Try.prog Try.f26.results.toList = some r26 := by kernel_rfl
theorem fn26 : Try.prog.funcs[26]? = some Try.f26 := by kernel_rfl
theorem nn26 : (Try.f26.name == "runtime.NumGoroutine") = false := by kernel_rfl
theorem nt26 : Try.f26.ntmps = 69 := by kernel_rfl
abbrev b28T3 : ICode :=
  (.keep [1,2,4,6,7,11] (.ops [⟨some 24,(.mv (.t 11)),none⟩,⟨some 25,(.bin .add (.t 24) (.k (I 1))),none⟩,⟨some 11,(.mv (.t 25)),none⟩]))
def c28T3 : ICode := b28T3
theorem w28T3 : W x Q c28T3 ks fr H ms = W x Q b28T3 ks fr H ms := rfl
abbrev b28T2 : ICode :=
  (.keep [1,2,4,6,7,11] (.seq (.block 1 (.seq (.ops [⟨some 26,(.load false 1 (.t 6)),none⟩,⟨some 27,(.mv (.t 11)),none⟩,⟨some 28,(.ixS 1 (.t 26) (.t 27)),none⟩,⟨some 29,(.load false 1 (.t 28)),none⟩,⟨some 30,(.call (.k (.fn (.func 30) [] [])) [(.t 29)]),none⟩,⟨some 12,(.mv (.t 30)),none⟩])
  (.seq (.ops [⟨some 31,(.mv (.t 12)),none⟩,⟨some 32,(.mv (.t 1)),none⟩,⟨some 33,(.bin .and (.t 31) (.t 32)),none⟩,⟨some 34,(.bin .eql (.t 33) (.k (I 0))),none⟩])
  (.cond (.t 34)
    (.seq (.draw 2 [] (.early 1 ⟨some 35,(.load false 1 (.t 4)),none⟩
      (.early 1 ⟨some 36,(.load false 1 (.t 6)),none⟩
      (.early 1 ⟨some 37,(.mv (.t 11)),none⟩
      (.early 1 ⟨some 38,(.ixS 1 (.t 36) (.t 37)),none⟩
      (.early 1 ⟨some 39,(.load false 1 (.t 38)),none⟩
      (.step 0 1 ⟨some 40,(.bslice 1 1 [nilSl] [(0,1,(.t 39))]),none⟩
      (.step 1 0 ⟨some 41,(.append 1 24 (.t 35) (.t 40)),none⟩
      (.step 2 0 ⟨none,(.store 1 (.t 4) (.t 41)),none⟩
      .done)))))))))
    (.keep [1,2,4,6,7,11,12] (.seq (.draw 0 [] (.early 1 ⟨some 42,(.load false 1 (.t 7)),none⟩
      (.early 1 ⟨some 43,(.mv (.t 11)),none⟩
      (.early 1 ⟨some 44,(.bin .add (.t 43) (.k (I 1))),none⟩
      (.early 1 ⟨some 45,(.mv (.t 1)),none⟩
      (.early 1 ⟨some 46,(.mv (.t 12)),none⟩
      (.early 1 ⟨some 47,(.bin .or (.t 45) (.t 46)),none⟩
      (.early 1 ⟨some 48,(.mv (.t 2)),none⟩
      (.early 1 ⟨some 49,(.load false 1 (.t 6)),none⟩
      (.early 1 ⟨some 50,(.mv (.t 11)),none⟩
      (.early 1 ⟨some 51,(.ixS 1 (.t 49) (.t 50)),none⟩
      (.early 1 ⟨some 52,(.load false 1 (.t 51)),none⟩
      (.early 1 ⟨some 53,(.len (.t 52)),none⟩
      (.early 1 ⟨some 54,(.bin .add (.t 48) (.t 53)),none⟩
      (.step 0 0 ⟨some 55,(.call (.t 42) [(.t 44),(.t 47),(.t 54)]),none⟩
      .done)))))))))))))))
    (.keep [1,2,4,6,7,11] (.ops [⟨some 56,(.load false 1 (.t 4)),none⟩,⟨some 57,(.load false 1 (.t 4)),none⟩,⟨some 58,(.len (.t 57)),none⟩,⟨some 59,(.bin .sub (.t 58) (.k (I 1))),none⟩,⟨some 60,(.slS 1 (.t 56) none (some (.t 59)) none),none⟩,⟨none,(.store 1 (.t 4) (.t 60)),none⟩])))))
    .skip))))
  c28T3))
def c28T2 : ICode := b28T2
theorem w28T2 : W x Q c28T2 ks fr H ms = W x Q b28T2 ks fr H ms := rfl
/- live: [1,2,4,6,7,11] -/
abbrev b28L1 : ICode :=
  (.seq (.seq (.ops [⟨some 20,(.mv (.t 11)),none⟩,⟨some 21,(.load false 1 (.t 6)),none⟩,⟨some 22,(.len (.t 21)),none⟩,⟨some 23,(.bin .lss (.t 20) (.t 22)),none⟩])
  (.cond (.t 23)
    .skip
    (.exit 0)))
  c28T2)
def c28L1 : ICode := b28L1
theorem w28L1 : W x Q c28L1 ks fr H ms = W x Q b28L1 ks fr H ms := rfl
abbrev b28T0 : ICode :=
  (.keep [0,1,2,4,6,7] (.seq (.ops [⟨some 19,(.mv (.t 0)),none⟩,⟨some 11,(.mv (.t 19)),none⟩])
  (.block 0 (.loop c28L1))))
def c28T0 : ICode := b28T0
theorem w28T0 : W x Q c28T0 ks fr H ms = W x Q b28T0 ks fr H ms := rfl
abbrev b28 : ICode :=
  (.seq (.seq (.ops [⟨some 13,(.mv (.t 2)),none⟩,⟨some 14,(.load false 1 (.t 3)),none⟩,⟨some 15,(.bin .gtr (.t 13) (.t 14)),none⟩])
  (.cond (.t 15)
    (.ops [⟨some 16,(.load false 1 (.t 4)),none⟩,⟨some 17,(.call (.k (.fn (.func 29) [] [])) [(.t 16)]),none⟩,⟨some 18,(.mv (.t 2)),none⟩,⟨none,(.store 1 (.t 5) (.t 17)),none⟩,⟨none,(.store 1 (.t 3) (.t 18)),none⟩])
    .skip))
  c28T0)
def c28 : ICode := b28
theorem w28 : W x Q c28 ks fr H ms = W x Q b28 ks fr H ms := rfl
def r28 : List IRes := []
theorem t28 : Try.f28.body.bind (trCode Try.prog Try.f28.ntmps) = some (strip c28) := by kernel_rfl
theorem q28 : trRes Try.prog Try.f28.results.toList = some r28 := by kernel_rfl
theorem fn28 : Try.prog.funcs[28]? = some Try.f28 := by kernel_rfl
theorem nn28 : (Try.f28.name == "runtime.NumGoroutine") = false := by kernel_rfl
theorem nt28 : Try.f28.ntmps = 61 := by kernel_rfl
abbrev b29 : ICode :=
  (.seq (.ops [⟨some 2,(.mv (.k nilSl)),none⟩])
  (.seq (.seq (.ops [⟨some 3,(.mv (.t 0)),none⟩,⟨some 4,(.eqnil false (.t 3)),none⟩])
  (.cond (.t 4)
    (.seq (.ops [⟨some 2,(.mv (.k nilSl)),none⟩])
    .ret)
    .skip))
  (.seq (.ops [⟨some 5,(.bslice 1 0 [nilSl] []),none⟩,⟨some 6,(.mv (.t 0)),none⟩,⟨some 7,(.append 1 24 (.t 5) (.t 6)),none⟩,⟨some 2,(.mv (.t 7)),none⟩])
  .ret)))
def c29 : ICode := b29
theorem w29 : W x Q c29 ks fr H ms = W x Q b29 ks fr H ms := rfl
def r29 : List IRes := [(.tmp 2)]
theorem t29 : Try.f29.body.bind (trCode Try.prog Try.f29.ntmps) = some (strip c29) := by kernel_rfl
theorem q29 : trRes Try.prog Try.f29.results.toList = some r29 := by kernel_rfl
theorem fn29 : Try.prog.funcs[29]? = some Try.f29 := by kernel_rfl
theorem nn29 : (Try.f29.name == "runtime.NumGoroutine") = false := by kernel_rfl
theorem nt29 : Try.f29.ntmps = 8 := by kernel_rfl
abbrev b30T1 : ICode :=
  (.keep [3] (.seq (.ops [⟨some 17,(.mv (.t 3)),none⟩,⟨some 2,(.mv (.t 17)),none⟩])
  .ret))
def c30T1 : ICode := b30T1
theorem w30T1 : W x Q c30T1 ks fr H ms = W x Q b30T1 ks fr H ms := rfl
/- live: [3,6,7,8] -/
abbrev b30L0 : ICode :=
  (.seq (.ops [⟨some 9,(.bin .lss (.t 8) (.t 7)),none⟩])
  (.seq (.cond (.t 9)
    .skip
    (.exit 0))
  (.seq (.block 1 (.seq (.ops [⟨some 10,(.ixS 1 (.t 6) (.t 8)),none⟩,⟨some 11,(.load false 1 (.t 10)),none⟩,⟨some 5,(.mv (.t 11)),none⟩])
  (.ops [⟨some 12,(.mv (.t 3)),none⟩,⟨some 13,(.mv (.t 5)),none⟩,⟨some 14,(.bin .shl (.k (I 1)) (.t 13)),none⟩,⟨some 15,(.bin .or (.t 12) (.t 14)),none⟩,⟨some 3,(.mv (.t 15)),none⟩])))
  (.ops [⟨some 16,(.bin .add (.t 8) (.k (I 1))),none⟩,⟨some 8,(.mv (.t 16)),none⟩]))))
def c30L0 : ICode := b30L0
theorem w30L0 : W x Q c30L0 ks fr H ms = W x Q b30L0 ks fr H ms := rfl
abbrev b30 : ICode :=
  (.seq (.ops [⟨some 2,(.mv (.k (I 0))),none⟩])
  (.seq (.ops [⟨some 3,(.mv (.k (I 0))),none⟩])
  (.seq (.seq (.ops [⟨some 6,(.mv (.t 0)),none⟩,⟨some 7,(.len (.t 6)),none⟩,⟨some 8,(.mv (.k (I 0))),none⟩])
  (.block 0 (.loop c30L0)))
  c30T1)))
def c30 : ICode := b30
theorem w30 : W x Q c30 ks fr H ms = W x Q b30 ks fr H ms := rfl
def r30 : List IRes := [(.tmp 2)]
theorem t30 : Try.f30.body.bind (trCode Try.prog Try.f30.ntmps) = some (strip c30) := by kernel_rfl
theorem q30 : trRes Try.prog Try.f30.results.toList = some r30 := by kernel_rfl
theorem fn30 : Try.prog.funcs[30]? = some Try.f30 := by kernel_rfl
theorem nn30 : (Try.f30.name == "runtime.NumGoroutine") = false := by kernel_rfl
theorem nt30 : Try.f30.ntmps = 18 := by kernel_rfl
abbrev b50 : ICode :=
  (.seq (.ops [⟨some 6,(.mv (.k (B false))),none⟩])
  (.seq (.ops [⟨some 7,(.mv (.t 0)),none⟩,⟨some 8,(.mv (.t 1)),none⟩,⟨some 9,(.ixS 1 (.t 7) (.t 8)),none⟩,⟨some 10,(.load false 1 (.t 9)),none⟩,⟨some 11,(.mv (.t 2)),none⟩,⟨some 12,(.bin .shr (.t 10) (.t 11)),none⟩,⟨some 13,(.bin .and (.t 12) (.k (I 1))),none⟩,⟨some 14,(.bin .eql (.t 13) (.k (I 1))),none⟩,⟨some 6,(.mv (.t 14)),none⟩])
  .ret))
def c50 : ICode := b50
theorem w50 : W x Q c50 ks fr H ms = W x Q b50 ks fr H ms := rfl
def r50 : List IRes := [(.tmp 6)]
theorem t50 : Try.f50.body.bind (trCode Try.prog Try.f50.ntmps) = some (strip c50) := by kernel_rfl
theorem q50 : trRes Try.prog Try.f50.results.toList = some r50 := by kernel_rfl
theorem fn50 : Try.prog.funcs[50]? = some Try.f50 := by kernel_rfl
theorem nn50 : (Try.f50.name == "runtime.NumGoroutine") = false := by kernel_rfl
theorem nt50 : Try.f50.ntmps = 15 := by kernel_rfl
end Go.Proofs.Ytlonaefihjdkpaa
