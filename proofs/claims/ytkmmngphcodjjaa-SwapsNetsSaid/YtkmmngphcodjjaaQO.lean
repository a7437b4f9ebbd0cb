/- The code of some functions of the program,cleaned: printed by a program of mine,checked here. -/
import Derived.Test.YtkmmngphcodjjaaProg
import Derived.Test.YtkmmngphcodjjaaAS
import Derived.Test.YtkmmngphcodjjaaCE
import Derived.KernelRfl
namespace Go.Proofs.Ytkmmngphcodjjaa
open Go.Abs AVal
variable {x : Cx} {Q : QT} {ks : List Kont} {fr : Fr} {H : AHeap} {ms : List Nat}
abbrev b14T0 : ICode :=
  (.keep [0,1,5,6,7,8,9,10,11] (.seq (.ops [⟨some 70,(.mv (.t 0)),none⟩,⟨some 71,(.mv (.t 7)),none⟩,⟨some 72,(.call (.k (.fn (.func 52) [] [])) [(.t 70),(.t 71)]),none⟩,⟨some 69,(.mv (.t 72)),none⟩,⟨some 73,(.ext (.t 69) 0),none⟩,⟨some 74,(.ext (.t 69) 1),none⟩,⟨some 12,(.mv (.t 73)),none⟩,⟨some 13,(.mv (.t 74)),none⟩])
  (.seq (.ops [⟨some 76,(.mv (.t 0)),none⟩,⟨some 77,(.mv (.t 1)),none⟩,⟨some 78,(.call (.k (.fn (.func 52) [] [])) [(.t 76),(.t 77)]),none⟩,⟨some 75,(.mv (.t 78)),none⟩,⟨some 79,(.ext (.t 75) 0),none⟩,⟨some 80,(.ext (.t 75) 1),none⟩,⟨some 14,(.mv (.t 79)),none⟩,⟨some 15,(.mv (.t 80)),none⟩])
  (.seq (.ops [⟨some 81,(.mv (.t 5)),none⟩,⟨some 82,(.mv (.t 0)),none⟩,⟨some 83,(.call (.k (.fn (.func 53) [] [])) [(.t 82)]),none⟩,⟨some 84,(.call (.k (.fn (.func 46) [] [])) [(.t 81),(.t 83),(.k (.fn (.func 20) [] []))]),none⟩,⟨some 85,(.mv (.t 84)),none⟩,⟨some 86,(.mv (.t 6)),some (85,true)⟩,⟨some 87,(.bin .eql (.t 86) (.k (I 0))),some (85,true)⟩,⟨some 88,(.pick (.t 85) (.t 87) (.k (B false))),none⟩,⟨some 89,(.mv (.t 88)),none⟩,⟨some 90,(.mv (.t 8)),some (89,true)⟩,⟨some 91,(.bin .eql (.t 90) (.k (I 0))),some (89,true)⟩,⟨some 92,(.pick (.t 89) (.t 91) (.k (B false))),none⟩,⟨some 93,(.mv (.t 92)),none⟩,⟨some 94,(.mv (.t 13)),some (93,true)⟩,⟨some 95,(.pick (.t 93) (.t 94) (.k (B false))),none⟩,⟨some 96,(.mv (.t 95)),none⟩,⟨some 97,(.mv (.t 12)),some (96,true)⟩,⟨some 98,(.mv (.t 0)),some (96,true)⟩,⟨some 99,(.call (.k (.fn (.func 54) [] [])) [(.t 98)]),some (96,true)⟩,⟨some 100,(.bin .eql (.t 97) (.t 99)),some (96,true)⟩,⟨some 101,(.pick (.t 96) (.t 100) (.k (B false))),none⟩,⟨some 102,(.mv (.t 101)),none⟩,⟨some 103,(.mv (.t 11)),some (102,true)⟩,⟨some 104,(.bin .eql (.t 103) (.k (I 0))),some (102,true)⟩,⟨some 105,(.pick (.t 102) (.t 104) (.k (B false))),none⟩,⟨some 106,(.mv (.t 105)),none⟩,⟨some 107,(.mv (.t 9)),some (106,true)⟩,⟨some 108,(.mv (.t 14)),some (106,true)⟩,⟨some 109,(.bin .eql (.t 107) (.t 108)),some (106,true)⟩,⟨some 110,(.pick (.t 106) (.t 109) (.k (B false))),none⟩,⟨some 111,(.mv (.t 110)),none⟩,⟨some 112,(.mv (.t 10)),some (111,true)⟩,⟨some 113,(.mv (.t 15)),some (111,true)⟩,⟨some 114,(.eqb false (.t 112) (.t 113)),some (111,true)⟩,⟨some 115,(.pick (.t 111) (.t 114) (.k (B false))),none⟩,⟨some 116,(.mv (.t 115)),none⟩,⟨some 117,(.call (.k (.fn (.func 19) [] [])) []),some (116,true)⟩,⟨some 118,(.pick (.t 116) (.t 117) (.k (B false))),none⟩,⟨some 4,(.mv (.t 118)),none⟩])
  .ret))))
def c14T0 : ICode := b14T0
theorem w14T0 : W x Q c14T0 ks fr H ms = W x Q b14T0 ks fr H ms := rfl
abbrev b14 : ICode :=
  (.seq (.ops [⟨some 4,(.mv (.k (B false))),none⟩])
  (.seq (.ops [⟨some 17,(.mv (.t 0)),none⟩,⟨some 18,(.call (.k (.fn (.func 27) [] [])) [(.t 17)]),none⟩,⟨some 19,(.call (.k (.fn (.func 51) [] [])) [(.t 18)]),none⟩,⟨some 16,(.mv (.t 19)),none⟩,⟨some 20,(.ext (.t 16) 0),none⟩,⟨some 21,(.ext (.t 16) 1),none⟩,⟨some 5,(.mv (.t 20)),none⟩,⟨some 6,(.mv (.t 21)),none⟩])
  (.seq (.ops [⟨some 23,(.mv (.t 0)),none⟩,⟨some 24,(.call (.k (.fn (.func 27) [] [])) [(.t 23)]),none⟩,⟨some 25,(.call (.k (.fn (.func 48) [] [])) [(.t 24)]),none⟩,⟨some 22,(.mv (.t 25)),none⟩,⟨some 26,(.ext (.t 22) 0),none⟩,⟨some 27,(.ext (.t 22) 1),none⟩,⟨some 7,(.mv (.t 26)),none⟩,⟨some 8,(.mv (.t 27)),none⟩])
  (.seq (.ops [⟨some 29,(.mv (.t 0)),none⟩,⟨some 30,(.call (.k (.fn (.func 27) [] [])) [(.t 29)]),none⟩,⟨some 31,(.mv (.t 1)),none⟩,⟨some 32,(.call (.k (.fn (.func 16) [] [])) [(.t 31)]),none⟩,⟨some 33,(.call (.k (.fn (.func 50) [] [])) [(.t 30),(.t 32)]),none⟩,⟨some 28,(.mv (.t 33)),none⟩,⟨some 34,(.ext (.t 28) 0),none⟩,⟨some 35,(.ext (.t 28) 1),none⟩,⟨some 36,(.ext (.t 28) 2),none⟩,⟨some 9,(.mv (.t 34)),none⟩,⟨some 10,(.mv (.t 35)),none⟩,⟨some 11,(.mv (.t 36)),none⟩])
  (.seq (.seq (.ops [⟨some 37,(.mv (.t 0)),none⟩,⟨some 38,(.call (.k (.fn (.func 49) [] [])) [(.t 37)]),none⟩,⟨some 39,(.un .not (.t 38)),none⟩])
  (.cond (.t 39)
    (.seq (.ops [⟨some 40,(.mv (.t 5)),none⟩,⟨some 41,(.len (.t 40)),none⟩,⟨some 42,(.mv (.t 7)),none⟩,⟨some 43,(.len (.t 42)),none⟩,⟨some 44,(.bin .add (.t 41) (.t 43)),none⟩,⟨some 45,(.bin .eql (.t 44) (.k (I 0))),none⟩,⟨some 46,(.mv (.t 45)),none⟩,⟨some 47,(.mv (.t 9)),some (46,true)⟩,⟨some 48,(.bin .eql (.t 47) (.k (I 0))),some (46,true)⟩,⟨some 49,(.pick (.t 46) (.t 48) (.k (B false))),none⟩,⟨some 50,(.mv (.t 49)),none⟩,⟨some 51,(.mv (.t 10)),some (50,true)⟩,⟨some 52,(.un .not (.t 51)),some (50,true)⟩,⟨some 53,(.pick (.t 50) (.t 52) (.k (B false))),none⟩,⟨some 54,(.mv (.t 53)),none⟩,⟨some 55,(.mv (.t 6)),some (54,true)⟩,⟨some 56,(.bin .eql (.t 55) (.k (I 2))),some (54,true)⟩,⟨some 57,(.pick (.t 54) (.t 56) (.k (B false))),none⟩,⟨some 58,(.mv (.t 57)),none⟩,⟨some 59,(.mv (.t 8)),some (58,true)⟩,⟨some 60,(.bin .eql (.t 59) (.k (I 2))),some (58,true)⟩,⟨some 61,(.pick (.t 58) (.t 60) (.k (B false))),none⟩,⟨some 62,(.mv (.t 61)),none⟩,⟨some 63,(.mv (.t 11)),some (62,true)⟩,⟨some 64,(.bin .eql (.t 63) (.k (I 2))),some (62,true)⟩,⟨some 65,(.pick (.t 62) (.t 64) (.k (B false))),none⟩,⟨some 66,(.mv (.t 65)),none⟩,⟨some 67,(.call (.k (.fn (.func 19) [] [])) []),some (66,true)⟩,⟨some 68,(.pick (.t 66) (.t 67) (.k (B false))),none⟩,⟨some 4,(.mv (.t 68)),none⟩])
    .ret)
    .skip))
  c14T0)))))
def c14 : ICode := b14
theorem w14 : W x Q c14 ks fr H ms = W x Q b14 ks fr H ms := rfl
def r14 : List IRes := [(.tmp 4)]
theorem t14 : Try.f14.body.bind (trCode Try.prog Try.f14.ntmps) = some (strip c14) := by kernel_rfl
theorem q14 : trRes Try.prog Try.f14.results.toList = some r14 := by kernel_rfl
theorem fn14 : Try.prog.funcs[14]? = some Try.f14 := by kernel_rfl
theorem nn14 : (Try.f14.name == "runtime.NumGoroutine") = false := by kernel_rfl
theorem nt14 : Try.f14.ntmps = 119 := by kernel_rfl
abbrev b52T9 : ICode :=
  (.keep [7] (.seq (.ops [⟨some 58,(.mv (.t 7)),none⟩,⟨some 4,(.mv (.t 58)),none⟩,⟨some 5,(.mv (.k (B true))),none⟩])
  .ret))
def c52T9 : ICode := b52T9
theorem w52T9 : W x Q c52T9 ks fr H ms = W x Q b52T9 ks fr H ms := rfl
abbrev b52T8 : ICode :=
  (.keep [0,1,6,7,12,13,14] (.ops [⟨some 57,(.bin .add (.t 14) (.k (I 1))),none⟩,⟨some 14,(.mv (.t 57)),none⟩]))
def c52T8 : ICode := b52T8
theorem w52T8 : W x Q c52T8 ks fr H ms = W x Q b52T8 ks fr H ms := rfl
abbrev b52T7 : ICode :=
  (.keep [0,1,6,7,9,12,13,14] (.ops [⟨some 53,(.mv (.t 7)),none⟩,⟨some 54,(.mv (.t 9)),none⟩,⟨some 55,(.len (.t 54)),none⟩,⟨some 56,(.bin .add (.t 53) (.t 55)),none⟩,⟨some 7,(.mv (.t 56)),none⟩]))
def c52T7 : ICode := b52T7
theorem w52T7 : W x Q c52T7 ks fr H ms = W x Q b52T7 ks fr H ms := rfl
abbrev b52T6 : ICode :=
  (.keep [0,1,6,7,9,12,13,14,37,38,39] (.ops [⟨some 52,(.bin .add (.t 39) (.k (I 1))),none⟩,⟨some 39,(.mv (.t 52)),none⟩]))
def c52T6 : ICode := b52T6
theorem w52T6 : W x Q c52T6 ks fr H ms = W x Q b52T6 ks fr H ms := rfl
abbrev b52T5 : ICode :=
  (.keep [0,1,6,7,9,11,12,13,14,37,38,39] (.ops [⟨some 48,(.mv (.t 6)),none⟩,⟨some 49,(.mv (.t 11)),none⟩,⟨some 50,(.bin .shl (.k (I 1)) (.t 49)),none⟩,⟨some 51,(.bin .or (.t 48) (.t 50)),none⟩,⟨some 6,(.mv (.t 51)),none⟩]))
def c52T5 : ICode := b52T5
theorem w52T5 : W x Q c52T5 ks fr H ms = W x Q b52T5 ks fr H ms := rfl
abbrev b52T4 : ICode :=
  (.keep [0,1,6,7,9,12,13,14,37,38,39] (.seq (.block 3 (.seq (.ops [⟨some 41,(.ixS 1 (.t 37) (.t 39)),none⟩,⟨some 42,(.load false 1 (.t 41)),none⟩,⟨some 11,(.mv (.t 42)),none⟩])
  (.seq (.seq (.ops [⟨some 43,(.mv (.t 6)),none⟩,⟨some 44,(.mv (.t 11)),none⟩,⟨some 45,(.bin .shr (.t 43) (.t 44)),none⟩,⟨some 46,(.bin .and (.t 45) (.k (I 1))),none⟩,⟨some 47,(.bin .eql (.t 46) (.k (I 1))),none⟩])
  (.cond (.t 47)
    (.seq (.ops [⟨some 4,(.mv (.k (I 0))),none⟩,⟨some 5,(.mv (.k (B false))),none⟩])
    .ret)
    .skip))
  c52T5)))
  c52T6))
def c52T4 : ICode := b52T4
theorem w52T4 : W x Q c52T4 ks fr H ms = W x Q b52T4 ks fr H ms := rfl
/- live: [0,1,6,7,9,12,13,14,37,38,39] -/
abbrev b52L3 : ICode :=
  (.seq (.ops [⟨some 40,(.bin .lss (.t 39) (.t 38)),none⟩])
  (.seq (.cond (.t 40)
    .skip
    (.exit 2))
  c52T4))
def c52L3 : ICode := b52L3
theorem w52L3 : W x Q c52L3 ks fr H ms = W x Q b52L3 ks fr H ms := rfl
abbrev b52T2 : ICode :=
  (.keep [0,1,6,7,9,12,13,14] (.seq (.seq (.ops [⟨some 37,(.mv (.t 9)),none⟩,⟨some 38,(.len (.t 37)),none⟩,⟨some 39,(.mv (.k (I 0))),none⟩])
  (.block 2 (.loop c52L3)))
  c52T7))
def c52T2 : ICode := b52T2
theorem w52T2 : W x Q c52T2 ks fr H ms = W x Q b52T2 ks fr H ms := rfl
abbrev b52T1 : ICode :=
  (.keep [0,1,6,7,12,13,14] (.seq (.block 1 (.seq (.ops [⟨some 16,(.mv (.t 14)),none⟩,⟨some 17,(.ixS 1 (.t 12) (.t 14)),none⟩,⟨some 18,(.load false 1 (.t 17)),none⟩,⟨some 8,(.mv (.t 16)),none⟩,⟨some 9,(.mv (.t 18)),none⟩])
  (.seq (.seq (.ops [⟨some 19,(.mv (.t 0)),none⟩,⟨some 20,(.mv (.t 9)),none⟩,⟨some 21,(.call (.k (.fn (.func 76) [] [])) [(.t 19),(.t 20)]),none⟩,⟨some 22,(.un .not (.t 21)),none⟩,⟨some 23,(.mv (.t 22)),none⟩,⟨some 24,(.mv (.t 8)),some (23,false)⟩,⟨some 25,(.bin .gtr (.t 24) (.k (I 0))),some (23,false)⟩,⟨some 26,(.mv (.t 25)),some (23,false)⟩,⟨some 27,(.mv (.t 1)),some (26,true)⟩,⟨some 28,(.mv (.t 8)),some (26,true)⟩,⟨some 29,(.bin .sub (.t 28) (.k (I 1))),some (26,true)⟩,⟨some 30,(.ixS 1 (.t 27) (.t 29)),some (26,true)⟩,⟨some 31,(.load false 1 (.t 30)),some (26,true)⟩,⟨some 32,(.mv (.t 9)),some (26,true)⟩,⟨some 33,(.call (.k (.fn (.func 77) [] [])) [(.t 31),(.t 32)]),some (26,true)⟩,⟨some 34,(.un .not (.t 33)),some (26,true)⟩,⟨some 35,(.pick (.t 26) (.t 34) (.k (B false))),some (23,false)⟩,⟨some 36,(.pick (.t 23) (.k (B true)) (.t 35)),none⟩])
  (.cond (.t 36)
    (.seq (.ops [⟨some 4,(.mv (.k (I 0))),none⟩,⟨some 5,(.mv (.k (B false))),none⟩])
    .ret)
    .skip))
  c52T2)))
  c52T8))
def c52T1 : ICode := b52T1
theorem w52T1 : W x Q c52T1 ks fr H ms = W x Q b52T1 ks fr H ms := rfl
/- live: [0,1,6,7,12,13,14] -/
abbrev b52L0 : ICode :=
  (.seq (.ops [⟨some 15,(.bin .lss (.t 14) (.t 13)),none⟩])
  (.seq (.cond (.t 15)
    .skip
    (.exit 0))
  c52T1))
def c52L0 : ICode := b52L0
theorem w52L0 : W x Q c52L0 ks fr H ms = W x Q b52L0 ks fr H ms := rfl
abbrev b52 : ICode :=
  (.seq (.ops [⟨some 4,(.mv (.k (I 0))),none⟩,⟨some 5,(.mv (.k (B false))),none⟩])
  (.seq (.ops [⟨some 6,(.mv (.k (I 0))),none⟩,⟨some 7,(.mv (.k (I 0))),none⟩])
  (.seq (.seq (.ops [⟨some 12,(.mv (.t 1)),none⟩,⟨some 13,(.len (.t 12)),none⟩,⟨some 14,(.mv (.k (I 0))),none⟩])
  (.block 0 (.loop c52L0)))
  c52T9)))
def c52 : ICode := b52
theorem w52 : W x Q c52 ks fr H ms = W x Q b52 ks fr H ms := rfl
def r52 : List IRes := [(.tmp 4),(.tmp 5)]
theorem t52 : Try.f52.body.bind (trCode Try.prog Try.f52.ntmps) = some (strip c52) := by kernel_rfl
theorem q52 : trRes Try.prog Try.f52.results.toList = some r52 := by kernel_rfl
theorem fn52 : Try.prog.funcs[52]? = some Try.f52 := by kernel_rfl
theorem nn52 : (Try.f52.name == "runtime.NumGoroutine") = false := by kernel_rfl
theorem nt52 : Try.f52.ntmps = 59 := by kernel_rfl
abbrev b53T10 : ICode :=
  (.keep [3] (.seq (.ops [⟨some 49,(.mv (.t 3)),none⟩,⟨some 2,(.mv (.t 49)),none⟩])
  .ret))
def c53T10 : ICode := b53T10
theorem w53T10 : W x Q c53T10 ks fr H ms = W x Q b53T10 ks fr H ms := rfl
abbrev b53T9 : ICode :=
  (.keep [0,3,8,9] (.ops [⟨some 48,(.bin .add (.t 9) (.k (I 1))),none⟩,⟨some 9,(.mv (.t 48)),none⟩]))
def c53T9 : ICode := b53T9
theorem w53T9 : W x Q c53T9 ks fr H ms = W x Q b53T9 ks fr H ms := rfl
abbrev b53T8 : ICode :=
  (.keep [0,3,4,8,9,13,14] (.ops [⟨some 47,(.bin .add (.t 14) (.k (I 1))),none⟩,⟨some 14,(.mv (.t 47)),none⟩]))
def c53T8 : ICode := b53T8
theorem w53T8 : W x Q c53T8 ks fr H ms = W x Q b53T8 ks fr H ms := rfl
abbrev b53T7 : ICode :=
  (.keep [0,3,4,5,8,9,13,14,29,30] (.ops [⟨some 46,(.bin .add (.t 30) (.k (I 1))),none⟩,⟨some 30,(.mv (.t 46)),none⟩]))
def c53T7 : ICode := b53T7
theorem w53T7 : W x Q c53T7 ks fr H ms = W x Q b53T7 ks fr H ms := rfl
abbrev b53T6 : ICode :=
  (.keep [0,3,4,5,8,9,13,14,29,30] (.seq (.block 5 (.seq (.ops [⟨some 32,(.mv (.t 30)),none⟩,⟨some 6,(.mv (.t 32)),none⟩])
  (.seq (.ops [⟨some 33,(.mv (.t 0)),none⟩,⟨some 34,(.mv (.t 4)),none⟩,⟨some 35,(.mv (.t 5)),none⟩,⟨some 36,(.mv (.t 6)),none⟩,⟨some 37,(.bslice 1 3 [(I 0)] [(0,1,(.t 34)),(1,1,(.t 35)),(2,1,(.t 36))]),none⟩,⟨some 38,(.call (.k (.fn (.func 76) [] [])) [(.t 33),(.t 37)]),none⟩])
  (.cond (.t 38)
    (.ops [⟨some 39,(.mv (.t 3)),none⟩,⟨some 40,(.mv (.t 4)),none⟩,⟨some 41,(.mv (.t 5)),none⟩,⟨some 42,(.mv (.t 6)),none⟩,⟨some 43,(.bslice 1 3 [(I 0)] [(0,1,(.t 40)),(1,1,(.t 41)),(2,1,(.t 42))]),none⟩,⟨some 44,(.bslice 1 1 [nilSl] [(0,1,(.t 43))]),none⟩,⟨some 45,(.append 1 24 (.t 39) (.t 44)),none⟩,⟨some 3,(.mv (.t 45)),none⟩])
    .skip))))
  c53T7))
def c53T6 : ICode := b53T6
theorem w53T6 : W x Q c53T6 ks fr H ms = W x Q b53T6 ks fr H ms := rfl
/- live: [0,3,4,5,8,9,13,14,29,30] -/
abbrev b53L5 : ICode :=
  (.seq (.ops [⟨some 31,(.bin .lss (.t 30) (.t 29)),none⟩])
  (.seq (.cond (.t 31)
    .skip
    (.exit 4))
  c53T6))
def c53L5 : ICode := b53L5
theorem w53L5 : W x Q c53L5 ks fr H ms = W x Q b53L5 ks fr H ms := rfl
abbrev b53T4 : ICode :=
  (.keep [0,3,4,5,8,9,13,14] (.seq (.view (.keep [0,3,4,5,8,9,13,14] (.ops [⟨some 28,(.mv (.t 0)),none⟩,⟨some 29,(.len (.t 28)),none⟩,⟨some 30,(.mv (.k (I 0))),none⟩])))
  (.block 4 (.loop c53L5))))
def c53T4 : ICode := b53T4
theorem w53T4 : W x Q c53T4 ks fr H ms = W x Q b53T4 ks fr H ms := rfl
abbrev b53T3 : ICode :=
  (.keep [0,3,4,8,9,13,14] (.seq (.block 3 (.seq (.ops [⟨some 16,(.mv (.t 14)),none⟩,⟨some 5,(.mv (.t 16)),none⟩])
  (.seq (.seq (.ops [⟨some 17,(.mv (.t 0)),none⟩,⟨some 18,(.mv (.t 4)),none⟩,⟨some 19,(.mv (.t 5)),none⟩,⟨some 20,(.bslice 1 2 [(I 0)] [(0,1,(.t 18)),(1,1,(.t 19))]),none⟩,⟨some 21,(.call (.k (.fn (.func 76) [] [])) [(.t 17),(.t 20)]),none⟩])
  (.cond (.t 21)
    (.ops [⟨some 22,(.mv (.t 3)),none⟩,⟨some 23,(.mv (.t 4)),none⟩,⟨some 24,(.mv (.t 5)),none⟩,⟨some 25,(.bslice 1 2 [(I 0)] [(0,1,(.t 23)),(1,1,(.t 24))]),none⟩,⟨some 26,(.bslice 1 1 [nilSl] [(0,1,(.t 25))]),none⟩,⟨some 27,(.append 1 24 (.t 22) (.t 26)),none⟩,⟨some 3,(.mv (.t 27)),none⟩])
    .skip))
  c53T4)))
  c53T8))
def c53T3 : ICode := b53T3
theorem w53T3 : W x Q c53T3 ks fr H ms = W x Q b53T3 ks fr H ms := rfl
/- live: [0,3,4,8,9,13,14] -/
abbrev b53L2 : ICode :=
  (.seq (.ops [⟨some 15,(.bin .lss (.t 14) (.t 13)),none⟩])
  (.seq (.cond (.t 15)
    .skip
    (.exit 2))
  c53T3))
def c53L2 : ICode := b53L2
theorem w53L2 : W x Q c53L2 ks fr H ms = W x Q b53L2 ks fr H ms := rfl
abbrev b53T1 : ICode :=
  (.keep [0,3,8,9] (.seq (.block 1 (.seq (.ops [⟨some 11,(.mv (.t 9)),none⟩,⟨some 4,(.mv (.t 11)),none⟩])
  (.seq (.ops [⟨some 12,(.mv (.t 0)),none⟩,⟨some 13,(.len (.t 12)),none⟩,⟨some 14,(.mv (.k (I 0))),none⟩])
  (.block 2 (.loop c53L2)))))
  c53T9))
def c53T1 : ICode := b53T1
theorem w53T1 : W x Q c53T1 ks fr H ms = W x Q b53T1 ks fr H ms := rfl
/- live: [0,3,8,9] -/
abbrev b53L0 : ICode :=
  (.seq (.ops [⟨some 10,(.bin .lss (.t 9) (.t 8)),none⟩])
  (.seq (.cond (.t 10)
    .skip
    (.exit 0))
  c53T1))
def c53L0 : ICode := b53L0
theorem w53L0 : W x Q c53L0 ks fr H ms = W x Q b53L0 ks fr H ms := rfl
abbrev b53 : ICode :=
  (.seq (.ops [⟨some 2,(.mv (.k nilSl)),none⟩])
  (.seq (.ops [⟨some 3,(.mv (.k nilSl)),none⟩])
  (.seq (.seq (.ops [⟨some 7,(.mv (.t 0)),none⟩,⟨some 8,(.len (.t 7)),none⟩,⟨some 9,(.mv (.k (I 0))),none⟩])
  (.block 0 (.loop c53L0)))
  c53T10)))
def c53 : ICode := b53
theorem w53 : W x Q c53 ks fr H ms = W x Q b53 ks fr H ms := rfl
def r53 : List IRes := [(.tmp 2)]
theorem t53 : Try.f53.body.bind (trCode Try.prog Try.f53.ntmps) = some (strip c53) := by kernel_rfl
theorem q53 : trRes Try.prog Try.f53.results.toList = some r53 := by kernel_rfl
theorem fn53 : Try.prog.funcs[53]? = some Try.f53 := by kernel_rfl
theorem nn53 : (Try.f53.name == "runtime.NumGoroutine") = false := by kernel_rfl
theorem nt53 : Try.f53.ntmps = 50 := by kernel_rfl
abbrev b54 : ICode :=
  (.seq (.ops [⟨some 2,(.mv (.k (I 0))),none⟩])
  (.seq (.ops [⟨some 3,(.mv (.t 0)),none⟩,⟨some 4,(.call (.k (.fn (.func 53) [] [])) [(.t 3)]),none⟩,⟨some 5,(.call (.k (.fn (.func 78) [] [])) [(.t 4),(.k (I 0))]),none⟩,⟨some 2,(.mv (.t 5)),none⟩])
  .ret))
def c54 : ICode := b54
theorem w54 : W x Q c54 ks fr H ms = W x Q b54 ks fr H ms := rfl
def r54 : List IRes := [(.tmp 2)]
theorem t54 : Try.f54.body.bind (trCode Try.prog Try.f54.ntmps) = some (strip c54) := by kernel_rfl
theorem q54 : trRes Try.prog Try.f54.results.toList = some r54 := by kernel_rfl
theorem fn54 : Try.prog.funcs[54]? = some Try.f54 := by kernel_rfl
theorem nn54 : (Try.f54.name == "runtime.NumGoroutine") = false := by kernel_rfl
theorem nt54 : Try.f54.ntmps = 6 := by kernel_rfl
abbrev b76T3 : ICode :=
  (.keep [] (.seq (.ops [⟨some 4,(.mv (.k (B true))),none⟩])
  .ret))
def c76T3 : ICode := b76T3
theorem w76T3 : W x Q c76T3 ks fr H ms = W x Q b76T3 ks fr H ms := rfl
/- live: [0,1,62,63,64] -/
abbrev b76L2 : ICode :=
  (.seq (.ops [⟨some 65,(.bin .lss (.t 64) (.t 63)),none⟩])
  (.seq (.cond (.t 65)
    .skip
    (.exit 2))
  (.seq (.block 3 (.seq (.ops [⟨some 66,(.mv (.t 64)),none⟩,⟨some 67,(.ixS 1 (.t 62) (.t 64)),none⟩,⟨some 68,(.load false 1 (.t 67)),none⟩,⟨some 7,(.mv (.t 66)),none⟩,⟨some 8,(.mv (.t 68)),none⟩])
  (.seq (.draw 0 [] (.early 1 ⟨some 69,(.mv (.t 0)),none⟩
    (.early 1 ⟨some 70,(.mv (.t 8)),none⟩
    (.early 1 ⟨some 71,(.ixS 1 (.t 69) (.t 70)),none⟩
    (.early 1 ⟨some 72,(.load false 1 (.t 71)),none⟩
    (.early 1 ⟨some 73,(.mv (.t 1)),none⟩
    (.early 1 ⟨some 74,(.mv (.t 7)),none⟩
    (.early 1 ⟨some 75,(.bin .add (.t 74) (.k (I 1))),none⟩
    (.early 1 ⟨some 76,(.mv (.t 1)),none⟩
    (.early 1 ⟨some 77,(.len (.t 76)),none⟩
    (.early 1 ⟨some 78,(.bin .rem (.t 75) (.t 77)),none⟩
    (.early 1 ⟨some 79,(.ixS 1 (.t 73) (.t 78)),none⟩
    (.early 1 ⟨some 80,(.load false 1 (.t 79)),none⟩
    (.early 0 ⟨some 81,(.bin .shr (.t 72) (.t 80)),none⟩
    (.early 0 ⟨some 82,(.bin .and (.t 81) (.k (I 1))),none⟩
    (.early 0 ⟨some 83,(.bin .eql (.t 82) (.k (I 0))),none⟩
    .done))))))))))))))))
  (.keep [0,1,62,63,64,83] (.cond (.t 83)
    (.seq (.ops [⟨some 4,(.mv (.k (B false))),none⟩])
    .ret)
    .skip)))))
  (.ops [⟨some 84,(.bin .add (.t 64) (.k (I 1))),none⟩,⟨some 64,(.mv (.t 84)),none⟩]))))
def c76L2 : ICode := b76L2
theorem w76L2 : W x Q c76L2 ks fr H ms = W x Q b76L2 ks fr H ms := rfl
abbrev b76T1 : ICode :=
  (.keep [0,1] (.seq (.seq (.ops [⟨some 62,(.mv (.t 1)),none⟩,⟨some 63,(.len (.t 62)),none⟩,⟨some 64,(.mv (.k (I 0))),none⟩])
  (.block 2 (.loop c76L2)))
  c76T3))
def c76T1 : ICode := b76T1
theorem w76T1 : W x Q c76T1 ks fr H ms = W x Q b76T1 ks fr H ms := rfl
/- live: [0,1,17,18,19] -/
abbrev b76L0 : ICode :=
  (.seq (.ops [⟨some 20,(.bin .lss (.t 19) (.t 18)),none⟩])
  (.seq (.cond (.t 20)
    .skip
    (.exit 0))
  (.seq (.block 1 (.seq (.ops [⟨some 21,(.mv (.t 19)),none⟩,⟨some 22,(.ixS 1 (.t 17) (.t 19)),none⟩,⟨some 23,(.load false 1 (.t 22)),none⟩,⟨some 5,(.mv (.t 21)),none⟩,⟨some 6,(.mv (.t 23)),none⟩])
  (.seq (.ops [⟨some 24,(.mv (.t 6)),none⟩,⟨some 25,(.bin .lss (.t 24) (.k (I 0))),none⟩,⟨some 26,(.mv (.t 25)),none⟩,⟨some 27,(.mv (.t 6)),some (26,false)⟩,⟨some 28,(.mv (.t 0)),some (26,false)⟩,⟨some 29,(.len (.t 28)),some (26,false)⟩,⟨some 30,(.bin .geq (.t 27) (.t 29)),some (26,false)⟩,⟨some 31,(.pick (.t 26) (.k (B true)) (.t 30)),none⟩,⟨some 32,(.mv (.t 31)),none⟩,⟨some 33,(.mv (.t 6)),some (32,false)⟩,⟨some 34,(.mv (.t 1)),some (32,false)⟩,⟨some 35,(.ixS 1 (.t 34) (.k (I 0))),some (32,false)⟩,⟨some 36,(.load false 1 (.t 35)),some (32,false)⟩,⟨some 37,(.bin .lss (.t 33) (.t 36)),some (32,false)⟩,⟨some 38,(.pick (.t 32) (.k (B true)) (.t 37)),none⟩,⟨some 39,(.mv (.t 38)),none⟩,⟨some 40,(.mv (.t 5)),some (39,false)⟩,⟨some 41,(.bin .gtr (.t 40) (.k (I 0))),some (39,false)⟩,⟨some 42,(.mv (.t 41)),some (39,false)⟩,⟨some 43,(.mv (.t 6)),some (42,true)⟩,⟨some 44,(.mv (.t 1)),some (42,true)⟩,⟨some 45,(.ixS 1 (.t 44) (.k (I 0))),some (42,true)⟩,⟨some 46,(.load false 1 (.t 45)),some (42,true)⟩,⟨some 47,(.bin .eql (.t 43) (.t 46)),some (42,true)⟩,⟨some 48,(.pick (.t 42) (.t 47) (.k (B false))),some (39,false)⟩,⟨some 49,(.pick (.t 39) (.k (B true)) (.t 48)),none⟩,⟨some 50,(.mv (.t 49)),none⟩,⟨some 51,(.mv (.t 5)),some (50,false)⟩,⟨some 52,(.bin .eql (.t 51) (.k (I 2))),some (50,false)⟩,⟨some 53,(.mv (.t 52)),some (50,false)⟩,⟨some 54,(.mv (.t 6)),some (53,true)⟩,⟨some 55,(.mv (.t 1)),some (53,true)⟩,⟨some 56,(.ixS 1 (.t 55) (.k (I 1))),some (53,true)⟩,⟨some 57,(.load false 1 (.t 56)),some (53,true)⟩,⟨some 58,(.bin .eql (.t 54) (.t 57)),some (53,true)⟩,⟨some 59,(.pick (.t 53) (.t 58) (.k (B false))),some (50,false)⟩,⟨some 60,(.pick (.t 50) (.k (B true)) (.t 59)),none⟩])
  (.cond (.t 60)
    (.seq (.ops [⟨some 4,(.mv (.k (B false))),none⟩])
    .ret)
    .skip))))
  (.ops [⟨some 61,(.bin .add (.t 19) (.k (I 1))),none⟩,⟨some 19,(.mv (.t 61)),none⟩]))))
def c76L0 : ICode := b76L0
theorem w76L0 : W x Q c76L0 ks fr H ms = W x Q b76L0 ks fr H ms := rfl
abbrev b76 : ICode :=
  (.seq (.ops [⟨some 4,(.mv (.k (B false))),none⟩])
  (.seq (.seq (.ops [⟨some 9,(.mv (.t 1)),none⟩,⟨some 10,(.len (.t 9)),none⟩,⟨some 11,(.bin .lss (.t 10) (.k (I 2))),none⟩,⟨some 12,(.mv (.t 11)),none⟩,⟨some 13,(.mv (.t 1)),some (12,false)⟩,⟨some 14,(.len (.t 13)),some (12,false)⟩,⟨some 15,(.bin .gtr (.t 14) (.k (I 3))),some (12,false)⟩,⟨some 16,(.pick (.t 12) (.k (B true)) (.t 15)),none⟩])
  (.cond (.t 16)
    (.seq (.ops [⟨some 4,(.mv (.k (B false))),none⟩])
    .ret)
    .skip))
  (.seq (.seq (.ops [⟨some 17,(.mv (.t 1)),none⟩,⟨some 18,(.len (.t 17)),none⟩,⟨some 19,(.mv (.k (I 0))),none⟩])
  (.block 0 (.loop c76L0)))
  c76T1)))
def c76 : ICode := b76
theorem w76 : W x Q c76 ks fr H ms = W x Q b76 ks fr H ms := rfl
def r76 : List IRes := [(.tmp 4)]
theorem t76 : Try.f76.body.bind (trCode Try.prog Try.f76.ntmps) = some (strip c76) := by kernel_rfl
theorem q76 : trRes Try.prog Try.f76.results.toList = some r76 := by kernel_rfl
theorem fn76 : Try.prog.funcs[76]? = some Try.f76 := by kernel_rfl
theorem nn76 : (Try.f76.name == "runtime.NumGoroutine") = false := by kernel_rfl
theorem nt76 : Try.f76.ntmps = 85 := by kernel_rfl
abbrev b77T1 : ICode :=
  (.keep [0,1] (.seq (.ops [⟨some 31,(.mv (.t 0)),none⟩,⟨some 32,(.len (.t 31)),none⟩,⟨some 33,(.mv (.t 1)),none⟩,⟨some 34,(.len (.t 33)),none⟩,⟨some 35,(.bin .lss (.t 32) (.t 34)),none⟩,⟨some 4,(.mv (.t 35)),none⟩])
  .ret))
def c77T1 : ICode := b77T1
theorem w77T1 : W x Q c77T1 ks fr H ms = W x Q b77T1 ks fr H ms := rfl
/- live: [0,1,7,8,9] -/
abbrev b77L0 : ICode :=
  (.seq (.ops [⟨some 10,(.bin .lss (.t 9) (.t 8)),none⟩])
  (.seq (.cond (.t 10)
    .skip
    (.exit 0))
  (.seq (.block 1 (.seq (.ops [⟨some 11,(.mv (.t 9)),none⟩,⟨some 12,(.ixS 1 (.t 7) (.t 9)),none⟩,⟨some 13,(.load false 1 (.t 12)),none⟩,⟨some 5,(.mv (.t 11)),none⟩,⟨some 6,(.mv (.t 13)),none⟩])
  (.seq (.seq (.ops [⟨some 14,(.mv (.t 5)),none⟩,⟨some 15,(.mv (.t 1)),none⟩,⟨some 16,(.len (.t 15)),none⟩,⟨some 17,(.bin .geq (.t 14) (.t 16)),none⟩])
  (.cond (.t 17)
    (.seq (.ops [⟨some 4,(.mv (.k (B false))),none⟩])
    .ret)
    .skip))
  (.seq (.ops [⟨some 18,(.mv (.t 6)),none⟩,⟨some 19,(.mv (.t 1)),none⟩,⟨some 20,(.mv (.t 5)),none⟩,⟨some 21,(.ixS 1 (.t 19) (.t 20)),none⟩,⟨some 22,(.load false 1 (.t 21)),none⟩,⟨some 23,(.bin .neq (.t 18) (.t 22)),none⟩])
  (.cond (.t 23)
    (.seq (.ops [⟨some 24,(.mv (.t 6)),none⟩,⟨some 25,(.mv (.t 1)),none⟩,⟨some 26,(.mv (.t 5)),none⟩,⟨some 27,(.ixS 1 (.t 25) (.t 26)),none⟩,⟨some 28,(.load false 1 (.t 27)),none⟩,⟨some 29,(.bin .lss (.t 24) (.t 28)),none⟩,⟨some 4,(.mv (.t 29)),none⟩])
    .ret)
    .skip)))))
  (.ops [⟨some 30,(.bin .add (.t 9) (.k (I 1))),none⟩,⟨some 9,(.mv (.t 30)),none⟩]))))
def c77L0 : ICode := b77L0
theorem w77L0 : W x Q c77L0 ks fr H ms = W x Q b77L0 ks fr H ms := rfl
abbrev b77 : ICode :=
  (.seq (.ops [⟨some 4,(.mv (.k (B false))),none⟩])
  (.seq (.seq (.ops [⟨some 7,(.mv (.t 0)),none⟩,⟨some 8,(.len (.t 7)),none⟩,⟨some 9,(.mv (.k (I 0))),none⟩])
  (.block 0 (.loop c77L0)))
  c77T1))
def c77 : ICode := b77
theorem w77 : W x Q c77 ks fr H ms = W x Q b77 ks fr H ms := rfl
def r77 : List IRes := [(.tmp 4)]
theorem t77 : Try.f77.body.bind (trCode Try.prog Try.f77.ntmps) = some (strip c77) := by kernel_rfl
theorem q77 : trRes Try.prog Try.f77.results.toList = some r77 := by kernel_rfl
theorem fn77 : Try.prog.funcs[77]? = some Try.f77 := by kernel_rfl
theorem nn77 : (Try.f77.name == "runtime.NumGoroutine") = false := by kernel_rfl
theorem nt77 : Try.f77.ntmps = 36 := by kernel_rfl
abbrev b78T4 : ICode :=
  (.keep [5] (.seq (.ops [⟨some 46,(.mv (.t 5)),none⟩,⟨some 4,(.mv (.t 46)),none⟩])
  .ret))
def c78T4 : ICode := b78T4
theorem w78T4 : W x Q c78T4 ks fr H ms = W x Q b78T4 ks fr H ms := rfl
abbrev b78T3 : ICode :=
  (.keep [0,1,5,6] (.seq (.seq (.ops [⟨some 29,(.mv (.t 6)),none⟩,⟨some 30,(.mv (.t 1)),none⟩,⟨some 31,(.bin .and (.t 29) (.t 30)),none⟩,⟨some 32,(.bin .eql (.t 31) (.k (I 0))),none⟩])
  (.cond (.t 32)
    (.draw 0 [] (.early 1 ⟨some 33,(.mv (.t 5)),none⟩
      (.early 1 ⟨some 34,(.mv (.t 0)),none⟩
      (.early 1 ⟨some 35,(.ixS 1 (.t 34) (.k (I 0))),none⟩
      (.early 1 ⟨some 36,(.load false 1 (.t 35)),none⟩
      (.early 1 ⟨some 37,(.len (.t 36)),none⟩
      (.early 1 ⟨some 38,(.mv (.t 0)),none⟩
      (.early 1 ⟨some 39,(.slS 1 (.t 38) (some (.k (I 1))) none none),none⟩
      (.early 1 ⟨some 40,(.mv (.t 1)),none⟩
      (.early 1 ⟨some 41,(.mv (.t 6)),none⟩
      (.early 1 ⟨some 42,(.bin .or (.t 40) (.t 41)),none⟩
      (.early 1 ⟨some 43,(.call (.k (.fn (.func 78) [] [])) [(.t 39),(.t 42)]),none⟩
      (.early 1 ⟨some 44,(.bin .add (.t 37) (.t 43)),none⟩
      (.early 0 ⟨some 45,(.mx (.t 33) (.t 44)),none⟩
      (.early 0 ⟨some 5,(.mv (.t 45)),none⟩
      .done)))))))))))))))
    .skip))
  c78T4))
def c78T3 : ICode := b78T3
theorem w78T3 : W x Q c78T3 ks fr H ms = W x Q b78T3 ks fr H ms := rfl
abbrev b78T2 : ICode :=
  (.keep [0,1,5,6,18,19,20] (.seq (.block 1 (.seq (.ops [⟨some 22,(.ixS 1 (.t 18) (.t 20)),none⟩,⟨some 23,(.load false 1 (.t 22)),none⟩,⟨some 8,(.mv (.t 23)),none⟩])
  (.ops [⟨some 24,(.mv (.t 6)),none⟩,⟨some 25,(.mv (.t 8)),none⟩,⟨some 26,(.bin .shl (.k (I 1)) (.t 25)),none⟩,⟨some 27,(.bin .or (.t 24) (.t 26)),none⟩,⟨some 6,(.mv (.t 27)),none⟩])))
  (.ops [⟨some 28,(.bin .add (.t 20) (.k (I 1))),none⟩,⟨some 20,(.mv (.t 28)),none⟩])))
def c78T2 : ICode := b78T2
theorem w78T2 : W x Q c78T2 ks fr H ms = W x Q b78T2 ks fr H ms := rfl
/- live: [0,1,5,6,18,19,20] -/
abbrev b78L1 : ICode :=
  (.seq (.ops [⟨some 21,(.bin .lss (.t 20) (.t 19)),none⟩])
  (.seq (.cond (.t 21)
    .skip
    (.exit 0))
  c78T2))
def c78L1 : ICode := b78L1
theorem w78L1 : W x Q c78L1 ks fr H ms = W x Q b78L1 ks fr H ms := rfl
abbrev b78T0 : ICode :=
  (.keep [0,1] (.seq (.ops [⟨some 12,(.mv (.t 0)),none⟩,⟨some 13,(.slS 1 (.t 12) (some (.k (I 1))) none none),none⟩,⟨some 14,(.mv (.t 1)),none⟩,⟨some 15,(.call (.k (.fn (.func 78) [] [])) [(.t 13),(.t 14)]),none⟩,⟨some 5,(.mv (.t 15)),none⟩])
  (.seq (.ops [⟨some 6,(.mv (.k (I 0))),none⟩])
  (.seq (.seq (.ops [⟨some 16,(.mv (.t 0)),none⟩,⟨some 17,(.ixS 1 (.t 16) (.k (I 0))),none⟩,⟨some 18,(.load false 1 (.t 17)),none⟩,⟨some 19,(.len (.t 18)),none⟩,⟨some 20,(.mv (.k (I 0))),none⟩])
  (.block 0 (.loop c78L1)))
  c78T3))))
def c78T0 : ICode := b78T0
theorem w78T0 : W x Q c78T0 ks fr H ms = W x Q b78T0 ks fr H ms := rfl
abbrev b78 : ICode :=
  (.seq (.ops [⟨some 4,(.mv (.k (I 0))),none⟩])
  (.seq (.seq (.ops [⟨some 9,(.mv (.t 0)),none⟩,⟨some 10,(.len (.t 9)),none⟩,⟨some 11,(.bin .eql (.t 10) (.k (I 0))),none⟩])
  (.cond (.t 11)
    (.seq (.ops [⟨some 4,(.mv (.k (I 0))),none⟩])
    .ret)
    .skip))
  c78T0))
def c78 : ICode := b78
theorem w78 : W x Q c78 ks fr H ms = W x Q b78 ks fr H ms := rfl
def r78 : List IRes := [(.tmp 4)]
theorem t78 : Try.f78.body.bind (trCode Try.prog Try.f78.ntmps) = some (strip c78) := by kernel_rfl
theorem q78 : trRes Try.prog Try.f78.results.toList = some r78 := by kernel_rfl
theorem fn78 : Try.prog.funcs[78]? = some Try.f78 := by kernel_rfl
theorem nn78 : (Try.f78.name == "runtime.NumGoroutine") = false := by kernel_rfl
theorem nt78 : Try.f78.ntmps = 47 := by kernel_rfl
end Go.Proofs.Ytkmmngphcodjjaa
