/- The code of some functions of the program,cleaned: printed by a program of mine,checked here. -/
import Derived.Test.YtkmmngphcodjjaaProg
import Derived.Test.YtkmmngphcodjjaaAS
import Derived.Test.YtkmmngphcodjjaaCE
import Derived.KernelRfl
namespace Go.Proofs.Ytkmmngphcodjjaa
open Go.Abs AVal
variable {x : Cx} {Q : QT} {ks : List Kont} {fr : Fr} {H : AHeap} {ms : List Nat}
/- live: [0,2,3,11,95,96,97] -/
abbrev b48T0 : ICode :=
  (.keep [0] (.seq (.ops [⟨some 12,(.mv (.t 0)),none⟩,⟨some 13,(.call (.k (.fn (.func 71) [] [])) [(.t 12)]),none⟩,⟨some 4,(.alloc [nilSl]),none⟩,⟨none,(.store 1 (.t 4) (.t 13)),none⟩])
  (.seq (.ops [⟨some 5,(.alloc [nilSl]),none⟩,⟨some 6,(.alloc [nilSl]),none⟩])
  (.seq (.ops [⟨some 7,(.alloc [(I 0)]),none⟩,⟨none,(.store 1 (.t 7) (.k (I 0))),none⟩])
  (.seq (.ops [⟨some 8,(.alloc [(.val .nilFunc)]),none⟩])
  (.seq (.ops [⟨some 14,(.mkfn (.func 72) [] [(.t 7),(.t 6),(.t 5),(.t 4),(.t 8)]),none⟩,⟨none,(.store 1 (.t 8) (.t 14)),none⟩])
  (.seq (.ops [⟨some 15,(.load false 1 (.t 8)),none⟩,⟨some 16,(.call (.t 15) [(.k (I 0)),(.k (I 0)),(.k (I 0))]),none⟩])
  (.seq (.ops [⟨some 17,(.load false 1 (.t 5)),none⟩,⟨some 2,(.mv (.t 17)),none⟩,⟨some 3,(.mv (.k (I 0))),none⟩])
  .ret))))))))
def c48T0 : ICode := b48T0
theorem w48T0 : W x Q c48T0 ks fr H ms = W x Q b48T0 ks fr H ms := rfl
abbrev b48 : ICode :=
  (.seq (.ops [⟨some 2,(.mv (.k nilSl)),none⟩,⟨some 3,(.mv (.k (I 0))),none⟩])
  (.seq (.seq (.ops [⟨some 9,(.mv (.t 0)),none⟩,⟨some 10,(.call (.k (.fn (.func 70) [] [])) [(.t 9)]),none⟩,⟨some 11,(.un .not (.t 10)),none⟩])
  (.cond (.t 11)
    (.seq (.ops [⟨some 2,(.mv (.k nilSl)),none⟩,⟨some 3,(.mv (.k (I 2))),none⟩])
    .ret)
    .skip))
  c48T0))
def c48 : ICode := b48
theorem w48 : W x Q c48 ks fr H ms = W x Q b48 ks fr H ms := rfl
def r48 : List IRes := [(.tmp 2),(.tmp 3)]
theorem t48 : Try.f48.body.bind (trCode Try.prog Try.f48.ntmps) = some (strip c48) := by kernel_rfl
theorem q48 : trRes Try.prog Try.f48.results.toList = some r48 := by kernel_rfl
theorem fn48 : Try.prog.funcs[48]? = some Try.f48 := by kernel_rfl
theorem nn48 : (Try.f48.name == "runtime.NumGoroutine") = false := by kernel_rfl
theorem nt48 : Try.f48.ntmps = 18 := by kernel_rfl
abbrev b49T1 : ICode :=
  (.keep [0] (.seq (.ops [⟨some 29,(.mv (.t 0)),none⟩,⟨some 30,(.len (.t 29)),none⟩,⟨some 31,(.bin .geq (.t 30) (.k (I 1))),none⟩,⟨some 32,(.mv (.t 31)),none⟩,⟨some 33,(.mv (.t 0)),some (32,true)⟩,⟨some 34,(.len (.t 33)),some (32,true)⟩,⟨some 35,(.bin .leq (.t 34) (.k (I 6))),some (32,true)⟩,⟨some 36,(.pick (.t 32) (.t 35) (.k (B false))),none⟩,⟨some 2,(.mv (.t 36)),none⟩])
  .ret))
def c49T1 : ICode := b49T1
theorem w49T1 : W x Q c49T1 ks fr H ms = W x Q b49T1 ks fr H ms := rfl
/- live: [0,5,6,7] -/
abbrev b49L0 : ICode :=
  (.seq (.ops [⟨some 8,(.bin .lss (.t 7) (.t 6)),none⟩])
  (.seq (.cond (.t 8)
    .skip
    (.exit 0))
  (.seq (.block 1 (.seq (.ops [⟨some 9,(.mv (.t 7)),none⟩,⟨some 10,(.ixS 1 (.t 5) (.t 7)),none⟩,⟨some 11,(.load false 1 (.t 10)),none⟩,⟨some 3,(.mv (.t 9)),none⟩,⟨some 4,(.mv (.t 11)),none⟩])
  (.seq (.ops [⟨some 12,(.mv (.t 4)),none⟩,⟨some 13,(.bin .lss (.t 12) (.k (I 0))),none⟩,⟨some 14,(.mv (.t 13)),none⟩,⟨some 15,(.mv (.t 4)),some (14,false)⟩,⟨some 16,(.mv (.t 0)),some (14,false)⟩,⟨some 17,(.len (.t 16)),some (14,false)⟩,⟨some 18,(.bin .shl (.k (I 1)) (.t 17)),some (14,false)⟩,⟨some 19,(.bin .geq (.t 15) (.t 18)),some (14,false)⟩,⟨some 20,(.pick (.t 14) (.k (B true)) (.t 19)),none⟩,⟨some 21,(.mv (.t 20)),none⟩,⟨some 22,(.mv (.t 4)),some (21,false)⟩,⟨some 23,(.mv (.t 3)),some (21,false)⟩,⟨some 24,(.bin .shr (.t 22) (.t 23)),some (21,false)⟩,⟨some 25,(.bin .and (.t 24) (.k (I 1))),some (21,false)⟩,⟨some 26,(.bin .eql (.t 25) (.k (I 1))),some (21,false)⟩,⟨some 27,(.pick (.t 21) (.k (B true)) (.t 26)),none⟩])
  (.cond (.t 27)
    (.seq (.ops [⟨some 2,(.mv (.k (B false))),none⟩])
    .ret)
    .skip))))
  (.ops [⟨some 28,(.bin .add (.t 7) (.k (I 1))),none⟩,⟨some 7,(.mv (.t 28)),none⟩]))))
def c49L0 : ICode := b49L0
theorem w49L0 : W x Q c49L0 ks fr H ms = W x Q b49L0 ks fr H ms := rfl
abbrev b49 : ICode :=
  (.seq (.ops [⟨some 2,(.mv (.k (B false))),none⟩])
  (.seq (.seq (.ops [⟨some 5,(.mv (.t 0)),none⟩,⟨some 6,(.len (.t 5)),none⟩,⟨some 7,(.mv (.k (I 0))),none⟩])
  (.block 0 (.loop c49L0)))
  c49T1))
def c49 : ICode := b49
theorem w49 : W x Q c49 ks fr H ms = W x Q b49 ks fr H ms := rfl
def r49 : List IRes := [(.tmp 2)]
theorem t49 : Try.f49.body.bind (trCode Try.prog Try.f49.ntmps) = some (strip c49) := by kernel_rfl
theorem q49 : trRes Try.prog Try.f49.results.toList = some r49 := by kernel_rfl
theorem fn49 : Try.prog.funcs[49]? = some Try.f49 := by kernel_rfl
theorem nn49 : (Try.f49.name == "runtime.NumGoroutine") = false := by kernel_rfl
theorem nt49 : Try.f49.ntmps = 37 := by kernel_rfl
abbrev b50T5 : ICode :=
  (.keep [9] (.seq (.ops [⟨some 48,(.mv (.t 9)),none⟩,⟨some 4,(.mv (.t 48)),none⟩,⟨some 5,(.mv (.k (B true))),none⟩,⟨some 6,(.mv (.k (I 0))),none⟩])
  .ret))
def c50T5 : ICode := b50T5
theorem w50T5 : W x Q c50T5 ks fr H ms = W x Q b50T5 ks fr H ms := rfl
abbrev b50T4 : ICode :=
  (.keep [7,8,9,10,19,20,21] (.ops [⟨some 47,(.bin .add (.t 21) (.k (I 1))),none⟩,⟨some 21,(.mv (.t 47)),none⟩]))
def c50T4 : ICode := b50T4
theorem w50T4 : W x Q c50T4 ks fr H ms = W x Q b50T4 ks fr H ms := rfl
abbrev b50T3 : ICode :=
  (.keep [7,8,9,12,13,19,20,21] (.seq (.ops [⟨some 38,(.mv (.t 13)),none⟩,⟨some 10,(.mv (.t 38)),none⟩])
  (.seq (.ops [⟨some 39,(.mv (.t 8)),none⟩,⟨some 40,(.load false 1 (.t 12)),none⟩,⟨some 41,(.call (.k (.fn (.func 74) [] [])) [(.t 40)]),none⟩,⟨some 42,(.bin .or (.t 39) (.t 41)),none⟩,⟨some 8,(.mv (.t 42)),none⟩])
  (.ops [⟨some 43,(.mv (.t 9)),none⟩,⟨some 44,(.load false 1 (.t 12)),none⟩,⟨some 45,(.len (.t 44)),none⟩,⟨some 46,(.bin .add (.t 43) (.t 45)),none⟩,⟨some 9,(.mv (.t 46)),none⟩]))))
def c50T3 : ICode := b50T3
theorem w50T3 : W x Q c50T3 ks fr H ms = W x Q b50T3 ks fr H ms := rfl
abbrev b50T2 : ICode :=
  (.keep [7,8,9,10,19,20,21] (.seq (.block 1 (.seq (.ops [⟨some 23,(.ixS 1 (.t 19) (.t 21)),none⟩,⟨some 24,(.load false 1 (.t 23)),none⟩,⟨some 12,(.alloc [nilSl]),none⟩,⟨none,(.store 1 (.t 12) (.t 24)),none⟩])
  (.seq (.view (.keep [7,8,9,10,12,19,20,21] (.ops [⟨some 25,(.mv (.t 7)),none⟩,⟨some 26,(.mkfn (.func 75) [] [(.t 12)]),none⟩,⟨some 27,(.call (.k (.fn (.func 65) [] [])) [(.t 25),(.t 26)]),none⟩,⟨some 13,(.mv (.t 27)),none⟩])))
  (.seq (.seq (.ops [⟨some 28,(.mv (.t 13)),none⟩,⟨some 29,(.mv (.t 10)),none⟩,⟨some 30,(.bin .leq (.t 28) (.t 29)),none⟩,⟨some 31,(.mv (.t 30)),none⟩,⟨some 32,(.load false 1 (.t 12)),some (31,false)⟩,⟨some 33,(.call (.k (.fn (.func 74) [] [])) [(.t 32)]),some (31,false)⟩,⟨some 34,(.mv (.t 8)),some (31,false)⟩,⟨some 35,(.bin .and (.t 33) (.t 34)),some (31,false)⟩,⟨some 36,(.bin .neq (.t 35) (.k (I 0))),some (31,false)⟩,⟨some 37,(.pick (.t 31) (.k (B true)) (.t 36)),none⟩])
  (.cond (.t 37)
    (.seq (.ops [⟨some 4,(.mv (.k (I 0))),none⟩,⟨some 5,(.mv (.k (B false))),none⟩,⟨some 6,(.mv (.k (I 0))),none⟩])
    .ret)
    .skip))
  c50T3))))
  c50T4))
def c50T2 : ICode := b50T2
theorem w50T2 : W x Q c50T2 ks fr H ms = W x Q b50T2 ks fr H ms := rfl
/- live: [7,8,9,10,19,20,21] -/
abbrev b50L1 : ICode :=
  (.seq (.ops [⟨some 22,(.bin .lss (.t 21) (.t 20)),none⟩])
  (.seq (.cond (.t 22)
    .skip
    (.exit 0))
  c50T2))
def c50L1 : ICode := b50L1
theorem w50L1 : W x Q c50L1 ks fr H ms = W x Q b50L1 ks fr H ms := rfl
abbrev b50T0 : ICode :=
  (.keep [0,1] (.seq (.ops [⟨some 17,(.mv (.t 0)),none⟩,⟨some 18,(.call (.k (.fn (.func 71) [] [])) [(.t 17)]),none⟩,⟨some 7,(.mv (.t 18)),none⟩])
  (.seq (.ops [⟨some 8,(.mv (.k (I 0))),none⟩,⟨some 9,(.mv (.k (I 0))),none⟩,⟨some 10,(.mv (.k (I (-1)))),none⟩])
  (.seq (.seq (.ops [⟨some 19,(.mv (.t 1)),none⟩,⟨some 20,(.len (.t 19)),none⟩,⟨some 21,(.mv (.k (I 0))),none⟩])
  (.block 0 (.loop c50L1)))
  c50T5))))
def c50T0 : ICode := b50T0
theorem w50T0 : W x Q c50T0 ks fr H ms = W x Q b50T0 ks fr H ms := rfl
abbrev b50 : ICode :=
  (.seq (.ops [⟨some 4,(.mv (.k (I 0))),none⟩,⟨some 5,(.mv (.k (B false))),none⟩,⟨some 6,(.mv (.k (I 0))),none⟩])
  (.seq (.seq (.ops [⟨some 14,(.mv (.t 0)),none⟩,⟨some 15,(.call (.k (.fn (.func 70) [] [])) [(.t 14)]),none⟩,⟨some 16,(.un .not (.t 15)),none⟩])
  (.cond (.t 16)
    (.seq (.ops [⟨some 4,(.mv (.k (I 0))),none⟩,⟨some 5,(.mv (.k (B false))),none⟩,⟨some 6,(.mv (.k (I 2))),none⟩])
    .ret)
    .skip))
  c50T0))
def c50 : ICode := b50
theorem w50 : W x Q c50 ks fr H ms = W x Q b50 ks fr H ms := rfl
def r50 : List IRes := [(.tmp 4),(.tmp 5),(.tmp 6)]
theorem t50 : Try.f50.body.bind (trCode Try.prog Try.f50.ntmps) = some (strip c50) := by kernel_rfl
theorem q50 : trRes Try.prog Try.f50.results.toList = some r50 := by kernel_rfl
theorem fn50 : Try.prog.funcs[50]? = some Try.f50 := by kernel_rfl
theorem nn50 : (Try.f50.name == "runtime.NumGoroutine") = false := by kernel_rfl
theorem nt50 : Try.f50.ntmps = 49 := by kernel_rfl
abbrev b51 : ICode :=
  (.seq (.ops [⟨some 2,(.mv (.k nilSl)),none⟩,⟨some 3,(.mv (.k (I 0))),none⟩])
  (.seq (.seq (.ops [⟨some 4,(.mv (.t 0)),none⟩,⟨some 5,(.call (.k (.fn (.func 70) [] [])) [(.t 4)]),none⟩,⟨some 6,(.un .not (.t 5)),none⟩])
  (.cond (.t 6)
    (.seq (.ops [⟨some 2,(.mv (.k nilSl)),none⟩,⟨some 3,(.mv (.k (I 2))),none⟩])
    .ret)
    .skip))
  (.seq (.ops [⟨some 7,(.mv (.t 0)),none⟩,⟨some 8,(.call (.k (.fn (.func 71) [] [])) [(.t 7)]),none⟩,⟨some 2,(.mv (.t 8)),none⟩,⟨some 3,(.mv (.k (I 0))),none⟩])
  .ret)))
def c51 : ICode := b51
theorem w51 : W x Q c51 ks fr H ms = W x Q b51 ks fr H ms := rfl
def r51 : List IRes := [(.tmp 2),(.tmp 3)]
theorem t51 : Try.f51.body.bind (trCode Try.prog Try.f51.ntmps) = some (strip c51) := by kernel_rfl
theorem q51 : trRes Try.prog Try.f51.results.toList = some r51 := by kernel_rfl
theorem fn51 : Try.prog.funcs[51]? = some Try.f51 := by kernel_rfl
theorem nn51 : (Try.f51.name == "runtime.NumGoroutine") = false := by kernel_rfl
theorem nt51 : Try.f51.ntmps = 9 := by kernel_rfl
abbrev b70T4 : ICode :=
  (.keep [] (.seq (.ops [⟨some 2,(.mv (.k (B true))),none⟩])
  .ret))
def c70T4 : ICode := b70T4
theorem w70T4 : W x Q c70T4 ks fr H ms = W x Q b70T4 ks fr H ms := rfl
abbrev b70T3 : ICode :=
  (.keep [3,14,15,16] (.ops [⟨some 36,(.bin .add (.t 16) (.k (I 1))),none⟩,⟨some 16,(.mv (.t 36)),none⟩]))
def c70T3 : ICode := b70T3
theorem w70T3 : W x Q c70T3 ks fr H ms = W x Q b70T3 ks fr H ms := rfl
abbrev b70T2 : ICode :=
  (.keep [3,14,15,16] (.seq (.block 1 (.seq (.ops [⟨some 18,(.mv (.t 16)),none⟩,⟨some 19,(.ixS 1 (.t 14) (.t 16)),none⟩,⟨some 20,(.load false 1 (.t 19)),none⟩,⟨some 4,(.mv (.t 18)),none⟩,⟨some 5,(.mv (.t 20)),none⟩])
  (.seq (.ops [⟨some 21,(.mv (.t 5)),none⟩,⟨some 22,(.bin .lss (.t 21) (.k (I 0))),none⟩,⟨some 23,(.mv (.t 22)),none⟩,⟨some 24,(.mv (.t 5)),some (23,false)⟩,⟨some 25,(.mv (.t 3)),some (23,false)⟩,⟨some 26,(.bin .shl (.k (I 1)) (.t 25)),some (23,false)⟩,⟨some 27,(.bin .geq (.t 24) (.t 26)),some (23,false)⟩,⟨some 28,(.pick (.t 23) (.k (B true)) (.t 27)),none⟩,⟨some 29,(.mv (.t 28)),none⟩,⟨some 30,(.mv (.t 5)),some (29,false)⟩,⟨some 31,(.mv (.t 4)),some (29,false)⟩,⟨some 32,(.bin .shr (.t 30) (.t 31)),some (29,false)⟩,⟨some 33,(.bin .and (.t 32) (.k (I 1))),some (29,false)⟩,⟨some 34,(.bin .eql (.t 33) (.k (I 1))),some (29,false)⟩,⟨some 35,(.pick (.t 29) (.k (B true)) (.t 34)),none⟩])
  (.cond (.t 35)
    (.seq (.ops [⟨some 2,(.mv (.k (B false))),none⟩])
    .ret)
    .skip))))
  c70T3))
def c70T2 : ICode := b70T2
theorem w70T2 : W x Q c70T2 ks fr H ms = W x Q b70T2 ks fr H ms := rfl
/- live: [3,14,15,16] -/
abbrev b70L1 : ICode :=
  (.seq (.ops [⟨some 17,(.bin .lss (.t 16) (.t 15)),none⟩])
  (.seq (.cond (.t 17)
    .skip
    (.exit 0))
  c70T2))
def c70L1 : ICode := b70L1
theorem w70L1 : W x Q c70L1 ks fr H ms = W x Q b70L1 ks fr H ms := rfl
abbrev b70T0 : ICode :=
  (.keep [0,3] (.seq (.seq (.ops [⟨some 14,(.mv (.t 0)),none⟩,⟨some 15,(.len (.t 14)),none⟩,⟨some 16,(.mv (.k (I 0))),none⟩])
  (.block 0 (.loop c70L1)))
  c70T4))
def c70T0 : ICode := b70T0
theorem w70T0 : W x Q c70T0 ks fr H ms = W x Q b70T0 ks fr H ms := rfl
abbrev b70 : ICode :=
  (.seq (.ops [⟨some 2,(.mv (.k (B false))),none⟩])
  (.seq (.ops [⟨some 6,(.mv (.t 0)),none⟩,⟨some 7,(.len (.t 6)),none⟩,⟨some 3,(.mv (.t 7)),none⟩])
  (.seq (.seq (.ops [⟨some 8,(.mv (.t 3)),none⟩,⟨some 9,(.bin .lss (.t 8) (.k (I 1))),none⟩,⟨some 10,(.mv (.t 9)),none⟩,⟨some 11,(.mv (.t 3)),some (10,false)⟩,⟨some 12,(.bin .gtr (.t 11) (.k (I 6))),some (10,false)⟩,⟨some 13,(.pick (.t 10) (.k (B true)) (.t 12)),none⟩])
  (.cond (.t 13)
    (.seq (.ops [⟨some 2,(.mv (.k (B false))),none⟩])
    .ret)
    .skip))
  c70T0)))
def c70 : ICode := b70
theorem w70 : W x Q c70 ks fr H ms = W x Q b70 ks fr H ms := rfl
def r70 : List IRes := [(.tmp 2)]
theorem t70 : Try.f70.body.bind (trCode Try.prog Try.f70.ntmps) = some (strip c70) := by kernel_rfl
theorem q70 : trRes Try.prog Try.f70.results.toList = some r70 := by kernel_rfl
theorem fn70 : Try.prog.funcs[70]? = some Try.f70 := by kernel_rfl
theorem nn70 : (Try.f70.name == "runtime.NumGoroutine") = false := by kernel_rfl
theorem nt70 : Try.f70.ntmps = 37 := by kernel_rfl
abbrev b71T11 : ICode :=
  (.keep [3] (.seq (.ops [⟨some 66,(.mv (.t 3)),none⟩,⟨some 67,(.call (.k (.fn (.func 88) [] [])) [(.t 66),(.k (.fn (.func 45) [] []))]),none⟩])
  (.seq (.ops [⟨some 68,(.mv (.t 3)),none⟩,⟨some 2,(.mv (.t 68)),none⟩])
  .ret)))
def c71T11 : ICode := b71T11
theorem w71T11 : W x Q c71T11 ks fr H ms = W x Q b71T11 ks fr H ms := rfl
abbrev b71T10 : ICode :=
  (.keep [0,3,8,9] (.ops [⟨some 65,(.bin .add (.t 9) (.k (I 1))),none⟩,⟨some 9,(.mv (.t 65)),none⟩]))
def c71T10 : ICode := b71T10
theorem w71T10 : W x Q c71T10 ks fr H ms = W x Q b71T10 ks fr H ms := rfl
abbrev b71T9 : ICode :=
  (.keep [0,3,4,5,8,9] (.ops [⟨some 18,(.mv (.t 5)),none⟩,⟨some 19,(.bin .add (.t 18) (.k (I 1))),none⟩,⟨some 5,(.mv (.t 19)),none⟩]))
def c71T9 : ICode := b71T9
theorem w71T9 : W x Q c71T9 ks fr H ms = W x Q b71T9 ks fr H ms := rfl
abbrev b71T8 : ICode :=
  (.keep [0,3,4,5,6,8,9] (.ops [⟨some 41,(.mv (.t 6)),none⟩,⟨some 42,(.bin .add (.t 41) (.k (I 1))),none⟩,⟨some 6,(.mv (.t 42)),none⟩]))
def c71T8 : ICode := b71T8
theorem w71T8 : W x Q c71T8 ks fr H ms = W x Q b71T8 ks fr H ms := rfl
abbrev b71T7 : ICode :=
  (.keep [0,3,4,5,6,8,9] (.seq (.block 5 (.seq (.ops [⟨some 43,(.mv (.t 6)),none⟩,⟨some 44,(.mv (.t 5)),none⟩,⟨some 45,(.bin .neq (.t 43) (.t 44)),none⟩,⟨some 46,(.mv (.t 45)),none⟩,⟨some 47,(.mv (.t 0)),some (46,true)⟩,⟨some 48,(.mv (.t 5)),some (46,true)⟩,⟨some 49,(.mv (.t 6)),some (46,true)⟩,⟨some 50,(.call (.k (.fn (.func 87) [] [])) [(.t 47),(.t 48),(.t 49)]),some (46,true)⟩,⟨some 51,(.pick (.t 46) (.t 50) (.k (B false))),none⟩,⟨some 52,(.mv (.t 51)),none⟩,⟨some 53,(.mv (.t 0)),some (52,true)⟩,⟨some 54,(.mv (.t 6)),some (52,true)⟩,⟨some 55,(.mv (.t 4)),some (52,true)⟩,⟨some 56,(.call (.k (.fn (.func 87) [] [])) [(.t 53),(.t 54),(.t 55)]),some (52,true)⟩,⟨some 57,(.pick (.t 52) (.t 56) (.k (B false))),none⟩])
  (.cond (.t 57)
    (.ops [⟨some 58,(.mv (.t 3)),none⟩,⟨some 59,(.mv (.t 4)),none⟩,⟨some 60,(.mv (.t 5)),none⟩,⟨some 61,(.mv (.t 6)),none⟩,⟨some 62,(.bslice 1 3 [(I 0)] [(0,1,(.t 59)),(1,1,(.t 60)),(2,1,(.t 61))]),none⟩,⟨some 63,(.bslice 1 1 [nilSl] [(0,1,(.t 62))]),none⟩,⟨some 64,(.append 1 24 (.t 58) (.t 63)),none⟩,⟨some 3,(.mv (.t 64)),none⟩])
    .skip)))
  c71T8))
def c71T7 : ICode := b71T7
theorem w71T7 : W x Q c71T7 ks fr H ms = W x Q b71T7 ks fr H ms := rfl
/- live: [0,3,4,5,6,8,9] -/
abbrev b71L6 : ICode :=
  (.seq (.seq (.ops [⟨some 37,(.mv (.t 6)),none⟩,⟨some 38,(.mv (.t 0)),none⟩,⟨some 39,(.len (.t 38)),none⟩,⟨some 40,(.bin .lss (.t 37) (.t 39)),none⟩])
  (.cond (.t 40)
    .skip
    (.exit 4)))
  c71T7)
def c71L6 : ICode := b71L6
theorem w71L6 : W x Q c71L6 ks fr H ms = W x Q b71L6 ks fr H ms := rfl
abbrev b71T5 : ICode :=
  (.view (.keep [0,3,4,5,8,9] (.seq (.ops [⟨some 35,(.mv (.t 4)),none⟩,⟨some 36,(.bin .add (.t 35) (.k (I 1))),none⟩,⟨some 6,(.mv (.t 36)),none⟩])
  (.block 4 (.loop c71L6)))))
def c71T5 : ICode := b71T5
theorem w71T5 : W x Q c71T5 ks fr H ms = W x Q b71T5 ks fr H ms := rfl
abbrev b71T4 : ICode :=
  (.keep [0,3,4,5,8,9] (.seq (.seq (.ops [⟨some 25,(.mv (.t 0)),none⟩,⟨some 26,(.mv (.t 5)),none⟩,⟨some 27,(.mv (.t 4)),none⟩,⟨some 28,(.call (.k (.fn (.func 87) [] [])) [(.t 25),(.t 26),(.t 27)]),none⟩])
  (.cond (.t 28)
    (.ops [⟨some 29,(.mv (.t 3)),none⟩,⟨some 30,(.mv (.t 4)),none⟩,⟨some 31,(.mv (.t 5)),none⟩,⟨some 32,(.bslice 1 2 [(I 0)] [(0,1,(.t 30)),(1,1,(.t 31))]),none⟩,⟨some 33,(.bslice 1 1 [nilSl] [(0,1,(.t 32))]),none⟩,⟨some 34,(.append 1 24 (.t 29) (.t 33)),none⟩,⟨some 3,(.mv (.t 34)),none⟩])
    .skip))
  c71T5))
def c71T4 : ICode := b71T4
theorem w71T4 : W x Q c71T4 ks fr H ms = W x Q b71T4 ks fr H ms := rfl
abbrev b71T3 : ICode :=
  (.keep [0,3,4,5,8,9] (.seq (.block 3 (.seq (.seq (.ops [⟨some 20,(.mv (.t 0)),none⟩,⟨some 21,(.mv (.t 4)),none⟩,⟨some 22,(.mv (.t 5)),none⟩,⟨some 23,(.call (.k (.fn (.func 87) [] [])) [(.t 20),(.t 21),(.t 22)]),none⟩,⟨some 24,(.un .not (.t 23)),none⟩])
  (.cond (.t 24)
    (.exit 3)
    .skip))
  c71T4))
  c71T9))
def c71T3 : ICode := b71T3
theorem w71T3 : W x Q c71T3 ks fr H ms = W x Q b71T3 ks fr H ms := rfl
/- live: [0,3,4,5,8,9] -/
abbrev b71L2 : ICode :=
  (.seq (.seq (.ops [⟨some 14,(.mv (.t 5)),none⟩,⟨some 15,(.mv (.t 0)),none⟩,⟨some 16,(.len (.t 15)),none⟩,⟨some 17,(.bin .lss (.t 14) (.t 16)),none⟩])
  (.cond (.t 17)
    .skip
    (.exit 2)))
  c71T3)
def c71L2 : ICode := b71L2
theorem w71L2 : W x Q c71L2 ks fr H ms = W x Q b71L2 ks fr H ms := rfl
abbrev b71T1 : ICode :=
  (.keep [0,3,8,9] (.seq (.block 1 (.seq (.ops [⟨some 11,(.mv (.t 9)),none⟩,⟨some 4,(.mv (.t 11)),none⟩])
  (.seq (.ops [⟨some 12,(.mv (.t 4)),none⟩,⟨some 13,(.bin .add (.t 12) (.k (I 1))),none⟩,⟨some 5,(.mv (.t 13)),none⟩])
  (.block 2 (.loop c71L2)))))
  c71T10))
def c71T1 : ICode := b71T1
theorem w71T1 : W x Q c71T1 ks fr H ms = W x Q b71T1 ks fr H ms := rfl
/- live: [0,3,8,9] -/
abbrev b71L0 : ICode :=
  (.seq (.ops [⟨some 10,(.bin .lss (.t 9) (.t 8)),none⟩])
  (.seq (.cond (.t 10)
    .skip
    (.exit 0))
  c71T1))
def c71L0 : ICode := b71L0
theorem w71L0 : W x Q c71L0 ks fr H ms = W x Q b71L0 ks fr H ms := rfl
abbrev b71 : ICode :=
  (.seq (.ops [⟨some 2,(.mv (.k nilSl)),none⟩])
  (.seq (.ops [⟨some 3,(.mv (.k nilSl)),none⟩])
  (.seq (.seq (.ops [⟨some 7,(.mv (.t 0)),none⟩,⟨some 8,(.len (.t 7)),none⟩,⟨some 9,(.mv (.k (I 0))),none⟩])
  (.block 0 (.loop c71L0)))
  c71T11)))
def c71 : ICode := b71
theorem w71 : W x Q c71 ks fr H ms = W x Q b71 ks fr H ms := rfl
def r71 : List IRes := [(.tmp 2)]
theorem t71 : Try.f71.body.bind (trCode Try.prog Try.f71.ntmps) = some (strip c71) := by kernel_rfl
theorem q71 : trRes Try.prog Try.f71.results.toList = some r71 := by kernel_rfl
theorem fn71 : Try.prog.funcs[71]? = some Try.f71 := by kernel_rfl
theorem nn71 : (Try.f71.name == "runtime.NumGoroutine") = false := by kernel_rfl
theorem nt71 : Try.f71.ntmps = 69 := by kernel_rfl
abbrev b72T3 : ICode :=
  (.keep [1,2,4,6,7,11] (.ops [⟨some 24,(.mv (.t 11)),none⟩,⟨some 25,(.bin .add (.t 24) (.k (I 1))),none⟩,⟨some 11,(.mv (.t 25)),none⟩]))
def c72T3 : ICode := b72T3
theorem w72T3 : W x Q c72T3 ks fr H ms = W x Q b72T3 ks fr H ms := rfl
abbrev b72T2 : ICode :=
  (.keep [1,2,4,6,7,11] (.seq (.block 1 (.seq (.ops [⟨some 26,(.load false 1 (.t 6)),none⟩,⟨some 27,(.mv (.t 11)),none⟩,⟨some 28,(.ixS 1 (.t 26) (.t 27)),none⟩,⟨some 29,(.load false 1 (.t 28)),none⟩,⟨some 30,(.call (.k (.fn (.func 74) [] [])) [(.t 29)]),none⟩,⟨some 12,(.mv (.t 30)),none⟩])
  (.seq (.ops [⟨some 31,(.mv (.t 12)),none⟩,⟨some 32,(.mv (.t 1)),none⟩,⟨some 33,(.bin .and (.t 31) (.t 32)),none⟩,⟨some 34,(.bin .eql (.t 33) (.k (I 0))),none⟩])
  (.cond (.t 34)
    (.seq (.draw 2 [] (.early 1 ⟨some 35,(.load false 1 (.t 4)),none⟩
      (.early 1 ⟨some 36,(.load false 1 (.t 6)),none⟩
      (.early 1 ⟨some 37,(.mv (.t 11)),none⟩
      (.early 1 ⟨some 38,(.ixS 1 (.t 36) (.t 37)),none⟩
      (.early 1 ⟨some 39,(.load false 1 (.t 38)),none⟩
      (.step 0 1 ⟨some 40,(.bslice 1 1 [nilSl] [(0,1,(.t 39))]),none⟩
      (.step 1 0 ⟨some 41,(.append 1 24 (.t 35) (.t 40)),none⟩
      (.step 2 0 ⟨none,(.store 1 (.t 4) (.t 41)),none⟩
      .done)))))))))
    (.keep [1,2,4,6,7,11,12] (.seq (.draw 0 [] (.early 1 ⟨some 42,(.load false 1 (.t 7)),none⟩
      (.early 1 ⟨some 43,(.mv (.t 11)),none⟩
      (.early 1 ⟨some 44,(.bin .add (.t 43) (.k (I 1))),none⟩
      (.early 1 ⟨some 45,(.mv (.t 1)),none⟩
      (.early 1 ⟨some 46,(.mv (.t 12)),none⟩
      (.early 1 ⟨some 47,(.bin .or (.t 45) (.t 46)),none⟩
      (.early 1 ⟨some 48,(.mv (.t 2)),none⟩
      (.early 1 ⟨some 49,(.load false 1 (.t 6)),none⟩
      (.early 1 ⟨some 50,(.mv (.t 11)),none⟩
      (.early 1 ⟨some 51,(.ixS 1 (.t 49) (.t 50)),none⟩
      (.early 1 ⟨some 52,(.load false 1 (.t 51)),none⟩
      (.early 1 ⟨some 53,(.len (.t 52)),none⟩
      (.early 1 ⟨some 54,(.bin .add (.t 48) (.t 53)),none⟩
      (.step 0 0 ⟨some 55,(.call (.t 42) [(.t 44),(.t 47),(.t 54)]),none⟩
      .done)))))))))))))))
    (.keep [1,2,4,6,7,11] (.ops [⟨some 56,(.load false 1 (.t 4)),none⟩,⟨some 57,(.load false 1 (.t 4)),none⟩,⟨some 58,(.len (.t 57)),none⟩,⟨some 59,(.bin .sub (.t 58) (.k (I 1))),none⟩,⟨some 60,(.slS 1 (.t 56) none (some (.t 59)) none),none⟩,⟨none,(.store 1 (.t 4) (.t 60)),none⟩])))))
    .skip))))
  c72T3))
def c72T2 : ICode := b72T2
theorem w72T2 : W x Q c72T2 ks fr H ms = W x Q b72T2 ks fr H ms := rfl
/- live: [1,2,4,6,7,11] -/
abbrev b72L1 : ICode :=
  (.seq (.seq (.ops [⟨some 20,(.mv (.t 11)),none⟩,⟨some 21,(.load false 1 (.t 6)),none⟩,⟨some 22,(.len (.t 21)),none⟩,⟨some 23,(.bin .lss (.t 20) (.t 22)),none⟩])
  (.cond (.t 23)
    .skip
    (.exit 0)))
  c72T2)
def c72L1 : ICode := b72L1
theorem w72L1 : W x Q c72L1 ks fr H ms = W x Q b72L1 ks fr H ms := rfl
abbrev b72T0 : ICode :=
  (.keep [0,1,2,4,6,7] (.seq (.ops [⟨some 19,(.mv (.t 0)),none⟩,⟨some 11,(.mv (.t 19)),none⟩])
  (.block 0 (.loop c72L1))))
def c72T0 : ICode := b72T0
theorem w72T0 : W x Q c72T0 ks fr H ms = W x Q b72T0 ks fr H ms := rfl
abbrev b72 : ICode :=
  (.seq (.seq (.ops [⟨some 13,(.mv (.t 2)),none⟩,⟨some 14,(.load false 1 (.t 3)),none⟩,⟨some 15,(.bin .gtr (.t 13) (.t 14)),none⟩])
  (.cond (.t 15)
    (.ops [⟨some 16,(.load false 1 (.t 4)),none⟩,⟨some 17,(.call (.k (.fn (.func 73) [] [])) [(.t 16)]),none⟩,⟨some 18,(.mv (.t 2)),none⟩,⟨none,(.store 1 (.t 5) (.t 17)),none⟩,⟨none,(.store 1 (.t 3) (.t 18)),none⟩])
    .skip))
  c72T0)
def c72 : ICode := b72
theorem w72 : W x Q c72 ks fr H ms = W x Q b72 ks fr H ms := rfl
def r72 : List IRes := []
theorem t72 : Try.f72.body.bind (trCode Try.prog Try.f72.ntmps) = some (strip c72) := by kernel_rfl
theorem q72 : trRes Try.prog Try.f72.results.toList = some r72 := by kernel_rfl
theorem fn72 : Try.prog.funcs[72]? = some Try.f72 := by kernel_rfl
theorem nn72 : (Try.f72.name == "runtime.NumGoroutine") = false := by kernel_rfl
theorem nt72 : Try.f72.ntmps = 61 := by kernel_rfl
abbrev b73 : ICode :=
  (.seq (.ops [⟨some 2,(.mv (.k nilSl)),none⟩])
  (.seq (.seq (.ops [⟨some 3,(.mv (.t 0)),none⟩,⟨some 4,(.eqnil false (.t 3)),none⟩])
  (.cond (.t 4)
    (.seq (.ops [⟨some 2,(.mv (.k nilSl)),none⟩])
    .ret)
    .skip))
  (.seq (.ops [⟨some 5,(.bslice 1 0 [nilSl] []),none⟩,⟨some 6,(.mv (.t 0)),none⟩,⟨some 7,(.append 1 24 (.t 5) (.t 6)),none⟩,⟨some 2,(.mv (.t 7)),none⟩])
  .ret)))
def c73 : ICode := b73
theorem w73 : W x Q c73 ks fr H ms = W x Q b73 ks fr H ms := rfl
def r73 : List IRes := [(.tmp 2)]
theorem t73 : Try.f73.body.bind (trCode Try.prog Try.f73.ntmps) = some (strip c73) := by kernel_rfl
theorem q73 : trRes Try.prog Try.f73.results.toList = some r73 := by kernel_rfl
theorem fn73 : Try.prog.funcs[73]? = some Try.f73 := by kernel_rfl
theorem nn73 : (Try.f73.name == "runtime.NumGoroutine") = false := by kernel_rfl
theorem nt73 : Try.f73.ntmps = 8 := by kernel_rfl
abbrev b74T1 : ICode :=
  (.keep [3] (.seq (.ops [⟨some 17,(.mv (.t 3)),none⟩,⟨some 2,(.mv (.t 17)),none⟩])
  .ret))
def c74T1 : ICode := b74T1
theorem w74T1 : W x Q c74T1 ks fr H ms = W x Q b74T1 ks fr H ms := rfl
/- live: [3,6,7,8] -/
abbrev b74L0 : ICode :=
  (.seq (.ops [⟨some 9,(.bin .lss (.t 8) (.t 7)),none⟩])
  (.seq (.cond (.t 9)
    .skip
    (.exit 0))
  (.seq (.block 1 (.seq (.ops [⟨some 10,(.ixS 1 (.t 6) (.t 8)),none⟩,⟨some 11,(.load false 1 (.t 10)),none⟩,⟨some 5,(.mv (.t 11)),none⟩])
  (.ops [⟨some 12,(.mv (.t 3)),none⟩,⟨some 13,(.mv (.t 5)),none⟩,⟨some 14,(.bin .shl (.k (I 1)) (.t 13)),none⟩,⟨some 15,(.bin .or (.t 12) (.t 14)),none⟩,⟨some 3,(.mv (.t 15)),none⟩])))
  (.ops [⟨some 16,(.bin .add (.t 8) (.k (I 1))),none⟩,⟨some 8,(.mv (.t 16)),none⟩]))))
def c74L0 : ICode := b74L0
theorem w74L0 : W x Q c74L0 ks fr H ms = W x Q b74L0 ks fr H ms := rfl
abbrev b74 : ICode :=
  (.seq (.ops [⟨some 2,(.mv (.k (I 0))),none⟩])
  (.seq (.ops [⟨some 3,(.mv (.k (I 0))),none⟩])
  (.seq (.seq (.ops [⟨some 6,(.mv (.t 0)),none⟩,⟨some 7,(.len (.t 6)),none⟩,⟨some 8,(.mv (.k (I 0))),none⟩])
  (.block 0 (.loop c74L0)))
  c74T1)))
def c74 : ICode := b74
theorem w74 : W x Q c74 ks fr H ms = W x Q b74 ks fr H ms := rfl
def r74 : List IRes := [(.tmp 2)]
theorem t74 : Try.f74.body.bind (trCode Try.prog Try.f74.ntmps) = some (strip c74) := by kernel_rfl
theorem q74 : trRes Try.prog Try.f74.results.toList = some r74 := by kernel_rfl
theorem fn74 : Try.prog.funcs[74]? = some Try.f74 := by kernel_rfl
theorem nn74 : (Try.f74.name == "runtime.NumGoroutine") = false := by kernel_rfl
theorem nt74 : Try.f74.ntmps = 18 := by kernel_rfl
abbrev b75 : ICode :=
  (.seq (.ops [⟨some 3,(.mv (.k (B false))),none⟩])
  (.seq (.ops [⟨some 4,(.mv (.t 0)),none⟩,⟨some 5,(.load false 1 (.t 1)),none⟩,⟨some 6,(.call (.k (.fn (.func 20) [] [])) [(.t 4),(.t 5)]),none⟩,⟨some 3,(.mv (.t 6)),none⟩])
  .ret))
def c75 : ICode := b75
theorem w75 : W x Q c75 ks fr H ms = W x Q b75 ks fr H ms := rfl
def r75 : List IRes := [(.tmp 3)]
theorem t75 : Try.f75.body.bind (trCode Try.prog Try.f75.ntmps) = some (strip c75) := by kernel_rfl
theorem q75 : trRes Try.prog Try.f75.results.toList = some r75 := by kernel_rfl
theorem fn75 : Try.prog.funcs[75]? = some Try.f75 := by kernel_rfl
theorem nn75 : (Try.f75.name == "runtime.NumGoroutine") = false := by kernel_rfl
theorem nt75 : Try.f75.ntmps = 7 := by kernel_rfl
abbrev b87 : ICode :=
  (.seq (.ops [⟨some 6,(.mv (.k (B false))),none⟩])
  (.seq (.ops [⟨some 7,(.mv (.t 0)),none⟩,⟨some 8,(.mv (.t 1)),none⟩,⟨some 9,(.ixS 1 (.t 7) (.t 8)),none⟩,⟨some 10,(.load false 1 (.t 9)),none⟩,⟨some 11,(.mv (.t 2)),none⟩,⟨some 12,(.bin .shr (.t 10) (.t 11)),none⟩,⟨some 13,(.bin .and (.t 12) (.k (I 1))),none⟩,⟨some 14,(.bin .eql (.t 13) (.k (I 1))),none⟩,⟨some 6,(.mv (.t 14)),none⟩])
  .ret))
def c87 : ICode := b87
theorem w87 : W x Q c87 ks fr H ms = W x Q b87 ks fr H ms := rfl
def r87 : List IRes := [(.tmp 6)]
theorem t87 : Try.f87.body.bind (trCode Try.prog Try.f87.ntmps) = some (strip c87) := by kernel_rfl
theorem q87 : trRes Try.prog Try.f87.results.toList = some r87 := by kernel_rfl
theorem fn87 : Try.prog.funcs[87]? = some Try.f87 := by kernel_rfl
theorem nn87 : (Try.f87.name == "runtime.NumGoroutine") = false := by kernel_rfl
theorem nt87 : Try.f87.ntmps = 15 := by kernel_rfl
end Go.Proofs.Ytkmmngphcodjjaa
