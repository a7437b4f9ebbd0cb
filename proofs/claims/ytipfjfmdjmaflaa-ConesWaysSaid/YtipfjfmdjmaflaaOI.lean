/- The code of some functions of the program,cleaned: printed by a program of mine,checked here. -/
import Derived.Test.YtipfjfmdjmaflaaProg
import Derived.Test.YtipfjfmdjmaflaaAS
import Derived.Test.YtipfjfmdjmaflaaKA
import Derived.KernelRfl
namespace Go.Proofs.Ytipfjfmdjmaflaa
open Go.Abs AVal
variable {x : Cx} {Q : QT} {ks : List Kont} {fr : Fr} {H : AHeap} {ms : List Nat}
abbrev b4T1 : ICode :=
  (.keep [0,1,2,3,11,12] (.seq (.ops [⟨some 98,(.mv (.t 12)),none⟩,⟨some 99,(.bin .eql (.t 98) (.k (I 0))),none⟩,⟨some 100,(.mv (.t 99)),none⟩,⟨some 101,(.mv (.t 3)),some (100,true)⟩,⟨some 102,(.len (.t 101)),some (100,true)⟩,⟨some 103,(.bin .gtr (.t 102) (.k (I 250))),some (100,true)⟩,⟨some 104,(.mv (.t 103)),some (100,true)⟩,⟨some 105,(.mv (.t 11)),some (104,false)⟩,⟨some 106,(.mv (.t 0)),some (104,false)⟩,⟨some 107,(.mv (.t 1)),some (104,false)⟩,⟨some 108,(.mv (.t 2)),some (104,false)⟩,⟨some 109,(.mv (.t 3)),some (104,false)⟩,⟨some 110,(.call (.k (.fn (.func 29) [] [])) [(.t 106),(.t 107),(.t 108),(.t 109)]),some (104,false)⟩,⟨some 111,(.eqb false (.t 105) (.t 110)),some (104,false)⟩,⟨some 112,(.pick (.t 104) (.k (B true)) (.t 111)),some (100,true)⟩,⟨some 113,(.pick (.t 100) (.t 112) (.k (B false))),none⟩,⟨some 114,(.mv (.t 113)),none⟩,⟨some 115,(.call (.k (.fn (.func 25) [] [])) []),some (114,true)⟩,⟨some 116,(.pick (.t 114) (.t 115) (.k (B false))),none⟩,⟨some 8,(.mv (.t 116)),none⟩])
  .ret))
def c4T1 : ICode := b4T1
theorem w4T1 : W x Q c4T1 ks fr H ms = W x Q b4T1 ks fr H ms := rfl
abbrev b4T0 : ICode :=
  (.keep [0,1,2,3,9,10,11,12] (.seq (.seq (.ops [⟨some 63,(.mv (.t 0)),none⟩,⟨some 64,(.mv (.t 1)),none⟩,⟨some 65,(.call (.k (.fn (.func 23) [] [])) [(.t 63),(.t 64)]),none⟩,⟨some 66,(.mv (.t 0)),none⟩,⟨some 67,(.mv (.t 2)),none⟩,⟨some 68,(.call (.k (.fn (.func 23) [] [])) [(.t 66),(.t 67)]),none⟩,⟨some 69,(.call (.k (.fn (.func 22) [] [])) [(.t 65),(.t 68)]),none⟩,⟨some 70,(.un .not (.t 69)),none⟩])
  (.cond (.t 70)
    (.seq (.ops [⟨some 71,(.mv (.t 9)),none⟩,⟨some 72,(.len (.t 71)),none⟩,⟨some 73,(.bin .neq (.t 72) (.k (I 0))),none⟩,⟨some 74,(.mv (.t 73)),none⟩,⟨some 75,(.mv (.t 10)),some (74,false)⟩,⟨some 76,(.bin .neq (.t 75) (.k (I 4))),some (74,false)⟩,⟨some 77,(.pick (.t 74) (.k (B true)) (.t 76)),none⟩])
    (.cond (.t 77)
      (.seq (.ops [⟨some 8,(.mv (.k (B false))),none⟩])
      .ret)
      .skip))
    (.seq (.ops [⟨some 78,(.mv (.t 10)),none⟩,⟨some 79,(.bin .neq (.t 78) (.k (I 0))),none⟩,⟨some 80,(.mv (.t 79)),none⟩,⟨some 81,(.mv (.t 0)),some (80,false)⟩,⟨some 82,(.mv (.t 1)),some (80,false)⟩,⟨some 83,(.mv (.t 2)),some (80,false)⟩,⟨some 84,(.mv (.t 9)),some (80,false)⟩,⟨some 85,(.call (.k (.fn (.func 29) [] [])) [(.t 81),(.t 82),(.t 83),(.t 84)]),some (80,false)⟩,⟨some 86,(.un .not (.t 85)),some (80,false)⟩,⟨some 87,(.pick (.t 80) (.k (B true)) (.t 86)),none⟩,⟨some 88,(.mv (.t 87)),none⟩,⟨some 89,(.mv (.t 9)),some (88,false)⟩,⟨some 90,(.len (.t 89)),some (88,false)⟩,⟨some 91,(.mv (.t 0)),some (88,false)⟩,⟨some 92,(.mv (.t 1)),some (88,false)⟩,⟨some 93,(.mv (.t 2)),some (88,false)⟩,⟨some 94,(.call (.k (.fn (.func 30) [] [])) [(.t 91),(.t 92),(.t 93)]),some (88,false)⟩,⟨some 95,(.bin .add (.t 94) (.k (I 1))),some (88,false)⟩,⟨some 96,(.bin .neq (.t 90) (.t 95)),some (88,false)⟩,⟨some 97,(.pick (.t 88) (.k (B true)) (.t 96)),none⟩])
    (.cond (.t 97)
      (.seq (.ops [⟨some 8,(.mv (.k (B false))),none⟩])
      .ret)
      .skip))))
  c4T1))
def c4T0 : ICode := b4T0
theorem w4T0 : W x Q c4T0 ks fr H ms = W x Q b4T0 ks fr H ms := rfl
abbrev b4 : ICode :=
  (.seq (.ops [⟨some 8,(.mv (.k (B false))),none⟩])
  (.seq (.ops [⟨some 14,(.mv (.t 0)),none⟩,⟨some 15,(.call (.k (.fn (.func 18) [] [])) [(.t 14)]),none⟩,⟨some 16,(.mv (.t 1)),none⟩,⟨some 17,(.call (.k (.fn (.func 19) [] [])) [(.t 16)]),none⟩,⟨some 18,(.mv (.t 2)),none⟩,⟨some 19,(.call (.k (.fn (.func 19) [] [])) [(.t 18)]),none⟩,⟨some 20,(.call (.k (.fn (.func 27) [] [])) [(.t 15),(.t 17),(.t 19)]),none⟩,⟨some 13,(.mv (.t 20)),none⟩,⟨some 21,(.ext (.t 13) 0),none⟩,⟨some 22,(.ext (.t 13) 1),none⟩,⟨some 9,(.mv (.t 21)),none⟩,⟨some 10,(.mv (.t 22)),none⟩])
  (.seq (.view (.keep [0,1,2,3,9,10] (.ops [⟨some 24,(.mv (.t 0)),none⟩,⟨some 25,(.call (.k (.fn (.func 18) [] [])) [(.t 24)]),none⟩,⟨some 26,(.mv (.t 1)),none⟩,⟨some 27,(.call (.k (.fn (.func 19) [] [])) [(.t 26)]),none⟩,⟨some 28,(.mv (.t 2)),none⟩,⟨some 29,(.call (.k (.fn (.func 19) [] [])) [(.t 28)]),none⟩,⟨some 30,(.mv (.t 3)),none⟩,⟨some 31,(.call (.k (.fn (.func 18) [] [])) [(.t 30)]),none⟩,⟨some 32,(.call (.k (.fn (.func 28) [] [])) [(.t 25),(.t 27),(.t 29),(.t 31)]),none⟩,⟨some 23,(.mv (.t 32)),none⟩,⟨some 33,(.ext (.t 23) 0),none⟩,⟨some 34,(.ext (.t 23) 1),none⟩,⟨some 11,(.mv (.t 33)),none⟩,⟨some 12,(.mv (.t 34)),none⟩])))
  (.seq (.seq (.ops [⟨some 35,(.mv (.t 0)),none⟩,⟨some 36,(.mv (.t 1)),none⟩,⟨some 37,(.call (.k (.fn (.func 21) [] [])) [(.t 35),(.t 36),(.k (I 0)),(.k (I 6))]),none⟩,⟨some 38,(.un .not (.t 37)),none⟩,⟨some 39,(.mv (.t 38)),none⟩,⟨some 40,(.mv (.t 0)),some (39,false)⟩,⟨some 41,(.mv (.t 2)),some (39,false)⟩,⟨some 42,(.call (.k (.fn (.func 21) [] [])) [(.t 40),(.t 41),(.k (I 0)),(.k (I 6))]),some (39,false)⟩,⟨some 43,(.un .not (.t 42)),some (39,false)⟩,⟨some 44,(.pick (.t 39) (.k (B true)) (.t 43)),none⟩])
  (.cond (.t 44)
    (.seq (.ops [⟨some 45,(.mv (.t 9)),none⟩,⟨some 46,(.len (.t 45)),none⟩,⟨some 47,(.bin .eql (.t 46) (.k (I 0))),none⟩,⟨some 48,(.mv (.t 47)),none⟩,⟨some 49,(.mv (.t 11)),some (48,true)⟩,⟨some 50,(.un .not (.t 49)),some (48,true)⟩,⟨some 51,(.pick (.t 48) (.t 50) (.k (B false))),none⟩,⟨some 52,(.mv (.t 51)),none⟩,⟨some 53,(.mv (.t 10)),some (52,true)⟩,⟨some 54,(.bin .eql (.t 53) (.k (I 2))),some (52,true)⟩,⟨some 55,(.pick (.t 52) (.t 54) (.k (B false))),none⟩,⟨some 56,(.mv (.t 55)),none⟩,⟨some 57,(.mv (.t 12)),some (56,true)⟩,⟨some 58,(.bin .eql (.t 57) (.k (I 2))),some (56,true)⟩,⟨some 59,(.pick (.t 56) (.t 58) (.k (B false))),none⟩,⟨some 60,(.mv (.t 59)),none⟩,⟨some 61,(.call (.k (.fn (.func 25) [] [])) []),some (60,true)⟩,⟨some 62,(.pick (.t 60) (.t 61) (.k (B false))),none⟩,⟨some 8,(.mv (.t 62)),none⟩])
    .ret)
    .skip))
  c4T0))))
def c4 : ICode := b4
theorem w4 : W x Q c4 ks fr H ms = W x Q b4 ks fr H ms := rfl
def r4 : List IRes := [(.tmp 8)]
theorem t4 : Try.f4.body.bind (trCode Try.prog Try.f4.ntmps) = some (strip c4) := by kernel_rfl
theorem q4 : trRes Try.prog Try.f4.results.toList = some r4 := by kernel_rfl
theorem fn4 : Try.prog.funcs[4]? = some Try.f4 := by kernel_rfl
theorem nn4 : (Try.f4.name == "runtime.NumGoroutine") = false := by kernel_rfl
theorem nt4 : Try.f4.ntmps = 117 := by kernel_rfl
abbrev b29T3 : ICode :=
  (.keep [2,3] (.seq (.ops [⟨some 58,(.mv (.t 3)),none⟩,⟨some 59,(.len (.t 58)),none⟩,⟨some 60,(.bin .gtr (.t 59) (.k (I 0))),none⟩,⟨some 61,(.mv (.t 60)),none⟩,⟨some 62,(.mv (.t 3)),some (61,true)⟩,⟨some 63,(.mv (.t 3)),some (61,true)⟩,⟨some 64,(.len (.t 63)),some (61,true)⟩,⟨some 65,(.bin .sub (.t 64) (.k (I 1))),some (61,true)⟩,⟨some 66,(.ixS 1 (.t 62) (.t 65)),some (61,true)⟩,⟨some 67,(.load false 1 (.t 66)),some (61,true)⟩,⟨some 68,(.mv (.t 2)),some (61,true)⟩,⟨some 69,(.call (.k (.fn (.func 75) [] [])) [(.t 67),(.t 68)]),some (61,true)⟩,⟨some 70,(.pick (.t 61) (.t 69) (.k (B false))),none⟩,⟨some 8,(.mv (.t 70)),none⟩])
  .ret))
def c29T3 : ICode := b29T3
theorem w29T3 : W x Q c29T3 ks fr H ms = W x Q b29T3 ks fr H ms := rfl
abbrev b29T2 : ICode :=
  (.keep [1,2,3,9,14,15,16] (.ops [⟨some 57,(.bin .add (.t 16) (.k (I 1))),none⟩,⟨some 16,(.mv (.t 57)),none⟩]))
def c29T2 : ICode := b29T2
theorem w29T2 : W x Q c29T2 ks fr H ms = W x Q b29T2 ks fr H ms := rfl
abbrev b29T1 : ICode :=
  (.keep [1,2,3,9,14,15,16] (.seq (.block 1 (.seq (.ops [⟨some 18,(.mv (.t 16)),none⟩,⟨some 19,(.ixS 1 (.t 14) (.t 16)),none⟩,⟨some 20,(.load false 1 (.t 19)),none⟩,⟨some 10,(.mv (.t 18)),none⟩,⟨some 11,(.mv (.t 20)),none⟩])
  (.seq (.ops [⟨some 21,(.mv (.t 11)),none⟩,⟨some 22,(.len (.t 21)),none⟩,⟨some 23,(.mv (.t 1)),none⟩,⟨some 24,(.len (.t 23)),none⟩,⟨some 25,(.bin .neq (.t 22) (.t 24)),none⟩,⟨some 26,(.mv (.t 25)),none⟩,⟨some 27,(.mv (.t 11)),some (26,false)⟩,⟨some 28,(.call (.k (.fn (.func 24) [] [])) [(.t 27),(.k (I 0)),(.k (I 1000000))]),some (26,false)⟩,⟨some 29,(.un .not (.t 28)),some (26,false)⟩,⟨some 30,(.pick (.t 26) (.k (B true)) (.t 29)),none⟩,⟨some 31,(.mv (.t 30)),none⟩,⟨some 32,(.mv (.t 10)),some (31,false)⟩,⟨some 33,(.bin .eql (.t 32) (.k (I 0))),some (31,false)⟩,⟨some 34,(.mv (.t 33)),some (31,false)⟩,⟨some 35,(.mv (.t 11)),some (34,true)⟩,⟨some 36,(.mv (.t 1)),some (34,true)⟩,⟨some 37,(.call (.k (.fn (.func 75) [] [])) [(.t 35),(.t 36)]),some (34,true)⟩,⟨some 38,(.un .not (.t 37)),some (34,true)⟩,⟨some 39,(.pick (.t 34) (.t 38) (.k (B false))),some (31,false)⟩,⟨some 40,(.pick (.t 31) (.k (B true)) (.t 39)),none⟩,⟨some 41,(.mv (.t 40)),none⟩,⟨some 42,(.mv (.t 10)),some (41,false)⟩,⟨some 43,(.bin .gtr (.t 42) (.k (I 0))),some (41,false)⟩,⟨some 44,(.mv (.t 43)),some (41,false)⟩,⟨some 45,(.mv (.t 9)),some (44,true)⟩,⟨some 46,(.mv (.t 11)),some (44,true)⟩,⟨some 47,(.mv (.t 3)),some (44,true)⟩,⟨some 48,(.mv (.t 10)),some (44,true)⟩,⟨some 49,(.bin .sub (.t 48) (.k (I 1))),some (44,true)⟩,⟨some 50,(.ixS 1 (.t 47) (.t 49)),some (44,true)⟩,⟨some 51,(.load false 1 (.t 50)),some (44,true)⟩,⟨some 52,(.call (.k (.fn (.func 77) [] [])) [(.t 46),(.t 51)]),some (44,true)⟩,⟨some 53,(.call (.k (.fn (.func 76) [] [])) [(.t 45),(.t 52)]),some (44,true)⟩,⟨some 54,(.un .not (.t 53)),some (44,true)⟩,⟨some 55,(.pick (.t 44) (.t 54) (.k (B false))),some (41,false)⟩,⟨some 56,(.pick (.t 41) (.k (B true)) (.t 55)),none⟩])
  (.cond (.t 56)
    (.seq (.ops [⟨some 8,(.mv (.k (B false))),none⟩])
    .ret)
    .skip))))
  c29T2))
def c29T1 : ICode := b29T1
theorem w29T1 : W x Q c29T1 ks fr H ms = W x Q b29T1 ks fr H ms := rfl
/- live: [1,2,3,9,14,15,16] -/
abbrev b29L0 : ICode :=
  (.seq (.ops [⟨some 17,(.bin .lss (.t 16) (.t 15)),none⟩])
  (.seq (.cond (.t 17)
    .skip
    (.exit 0))
  c29T1))
def c29L0 : ICode := b29L0
theorem w29L0 : W x Q c29L0 ks fr H ms = W x Q b29L0 ks fr H ms := rfl
abbrev b29 : ICode :=
  (.seq (.ops [⟨some 8,(.mv (.k (B false))),none⟩])
  (.seq (.ops [⟨some 12,(.mv (.t 0)),none⟩,⟨some 13,(.call (.k (.fn (.func 50) [] [])) [(.t 12)]),none⟩,⟨some 9,(.mv (.t 13)),none⟩])
  (.seq (.seq (.ops [⟨some 14,(.mv (.t 3)),none⟩,⟨some 15,(.len (.t 14)),none⟩,⟨some 16,(.mv (.k (I 0))),none⟩])
  (.block 0 (.loop c29L0)))
  c29T3)))
def c29 : ICode := b29
theorem w29 : W x Q c29 ks fr H ms = W x Q b29 ks fr H ms := rfl
def r29 : List IRes := [(.tmp 8)]
theorem t29 : Try.f29.body.bind (trCode Try.prog Try.f29.ntmps) = some (strip c29) := by kernel_rfl
theorem q29 : trRes Try.prog Try.f29.results.toList = some r29 := by kernel_rfl
theorem fn29 : Try.prog.funcs[29]? = some Try.f29 := by kernel_rfl
theorem nn29 : (Try.f29.name == "runtime.NumGoroutine") = false := by kernel_rfl
theorem nt29 : Try.f29.ntmps = 71 := by kernel_rfl
abbrev b30T9 : ICode :=
  (.keep [2,7,8,9,10] (.ops [⟨some 27,(.mv (.t 10)),none⟩,⟨some 28,(.bin .add (.t 27) (.k (I 1))),none⟩,⟨some 10,(.mv (.t 28)),none⟩]))
def c30T9 : ICode := b30T9
theorem w30T9 : W x Q c30T9 ks fr H ms = W x Q b30T9 ks fr H ms := rfl
abbrev b30T8 : ICode :=
  (.keep [2,7,8,10,11] (.ops [⟨some 61,(.mv (.t 11)),none⟩,⟨some 9,(.mv (.t 61)),none⟩]))
def c30T8 : ICode := b30T8
theorem w30T8 : W x Q c30T8 ks fr H ms = W x Q b30T8 ks fr H ms := rfl
abbrev b30T7 : ICode :=
  (.keep [2,7,8,10,11,29,30,31] (.ops [⟨some 60,(.bin .add (.t 31) (.k (I 1))),none⟩,⟨some 31,(.mv (.t 60)),none⟩]))
def c30T7 : ICode := b30T7
theorem w30T7 : W x Q c30T7 ks fr H ms = W x Q b30T7 ks fr H ms := rfl
abbrev b30T6 : ICode :=
  (.keep [2,7,8,10,11,13,29,30,31,39,40,41] (.ops [⟨some 59,(.bin .add (.t 41) (.k (I 1))),none⟩,⟨some 41,(.mv (.t 59)),none⟩]))
def c30T6 : ICode := b30T6
theorem w30T6 : W x Q c30T6 ks fr H ms = W x Q b30T6 ks fr H ms := rfl
abbrev b30T5 : ICode :=
  (.keep [2,7,8,10,11,13,29,30,31,39,40,41] (.seq (.block 5 (.seq (.ops [⟨some 43,(.ixS 1 (.t 39) (.t 41)),none⟩,⟨some 44,(.load false 1 (.t 43)),none⟩,⟨some 15,(.mv (.t 44)),none⟩])
  (.seq (.ops [⟨some 45,(.mv (.t 13)),none⟩,⟨some 46,(.mv (.t 15)),none⟩,⟨some 47,(.call (.k (.fn (.func 79) [] [])) [(.t 45),(.t 46)]),none⟩,⟨some 16,(.mv (.t 47)),none⟩])
  (.seq (.ops [⟨some 48,(.mv (.t 16)),none⟩,⟨some 49,(.call (.k (.fn (.func 24) [] [])) [(.t 48),(.k (I 0)),(.k (I 8000))]),none⟩,⟨some 50,(.mv (.t 49)),none⟩,⟨some 51,(.mv (.t 8)),some (50,true)⟩,⟨some 52,(.mv (.t 16)),some (50,true)⟩,⟨some 53,(.call (.k (.fn (.func 78) [] [])) [(.t 51),(.t 52)]),some (50,true)⟩,⟨some 54,(.pick (.t 50) (.t 53) (.k (B false))),none⟩])
  (.cond (.t 54)
    (.ops [⟨some 55,(.mv (.t 11)),none⟩,⟨some 56,(.mv (.t 16)),none⟩,⟨some 57,(.bslice 1 1 [nilSl] [(0,1,(.t 56))]),none⟩,⟨some 58,(.append 1 24 (.t 55) (.t 57)),none⟩,⟨some 11,(.mv (.t 58)),none⟩])
    .skip)))))
  c30T6))
def c30T5 : ICode := b30T5
theorem w30T5 : W x Q c30T5 ks fr H ms = W x Q b30T5 ks fr H ms := rfl
/- live: [2,7,8,10,11,13,29,30,31,39,40,41] -/
abbrev b30L4 : ICode :=
  (.seq (.ops [⟨some 42,(.bin .lss (.t 41) (.t 40)),none⟩])
  (.seq (.cond (.t 42)
    .skip
    (.exit 4))
  c30T5))
def c30L4 : ICode := b30L4
theorem w30L4 : W x Q c30L4 ks fr H ms = W x Q b30L4 ks fr H ms := rfl
abbrev b30T3 : ICode :=
  (.keep [2,7,8,10,11,13,29,30,31] (.seq (.ops [⟨some 39,(.mv (.t 7)),none⟩,⟨some 40,(.len (.t 39)),none⟩,⟨some 41,(.mv (.k (I 0))),none⟩])
  (.block 4 (.loop c30L4))))
def c30T3 : ICode := b30T3
theorem w30T3 : W x Q c30T3 ks fr H ms = W x Q b30T3 ks fr H ms := rfl
abbrev b30T2 : ICode :=
  (.keep [2,7,8,10,11,29,30,31] (.seq (.block 3 (.seq (.ops [⟨some 33,(.ixS 1 (.t 29) (.t 31)),none⟩,⟨some 34,(.load false 1 (.t 33)),none⟩,⟨some 13,(.mv (.t 34)),none⟩])
  (.seq (.seq (.ops [⟨some 35,(.mv (.t 13)),none⟩,⟨some 36,(.mv (.t 2)),none⟩,⟨some 37,(.call (.k (.fn (.func 75) [] [])) [(.t 35),(.t 36)]),none⟩])
  (.cond (.t 37)
    (.seq (.ops [⟨some 38,(.mv (.t 10)),none⟩,⟨some 6,(.mv (.t 38)),none⟩])
    .ret)
    .skip))
  c30T3)))
  c30T7))
def c30T2 : ICode := b30T2
theorem w30T2 : W x Q c30T2 ks fr H ms = W x Q b30T2 ks fr H ms := rfl
/- live: [2,7,8,10,11,29,30,31] -/
abbrev b30L1 : ICode :=
  (.seq (.ops [⟨some 32,(.bin .lss (.t 31) (.t 30)),none⟩])
  (.seq (.cond (.t 32)
    .skip
    (.exit 2))
  c30T2))
def c30L1 : ICode := b30L1
theorem w30L1 : W x Q c30L1 ks fr H ms = W x Q b30L1 ks fr H ms := rfl
/- live: [2,7,8,9,10] -/
abbrev b30L0 : ICode :=
  (.seq (.block 1 (.seq (.ops [⟨some 11,(.mv (.k nilSl)),none⟩])
  (.seq (.seq (.ops [⟨some 29,(.mv (.t 9)),none⟩,⟨some 30,(.len (.t 29)),none⟩,⟨some 31,(.mv (.k (I 0))),none⟩])
  (.block 2 (.loop c30L1)))
  c30T8)))
  c30T9)
def c30L0 : ICode := b30L0
theorem w30L0 : W x Q c30L0 ks fr H ms = W x Q b30L0 ks fr H ms := rfl
abbrev b30 : ICode :=
  (.seq (.ops [⟨some 6,(.mv (.k (I 0))),none⟩])
  (.seq (.ops [⟨some 17,(.mv (.t 0)),none⟩,⟨some 18,(.call (.k (.fn (.func 50) [] [])) [(.t 17)]),none⟩,⟨some 7,(.mv (.t 18)),none⟩])
  (.seq (.ops [⟨some 19,(.mksl 1 8 [(I 0)] (.k (I 1024)) (.k (I 1024))),none⟩,⟨some 20,(.build [nilSl,(I 0)] [(0,1,(.t 19))]),none⟩,⟨some 21,(.box (.t 20)),none⟩,⟨some 8,(.mv (.t 21)),none⟩])
  (.seq (.view (.keep [1,2,7,8] (.ops [⟨some 22,(.mv (.t 8)),none⟩,⟨some 23,(.mv (.t 1)),none⟩,⟨some 24,(.call (.k (.fn (.func 78) [] [])) [(.t 22),(.t 23)]),none⟩])))
  (.seq (.ops [⟨some 25,(.mv (.t 1)),none⟩,⟨some 26,(.bslice 1 1 [nilSl] [(0,1,(.t 25))]),none⟩,⟨some 9,(.mv (.t 26)),none⟩])
  (.seq (.ops [⟨some 10,(.mv (.k (I 0))),none⟩])
  (.block 0 (.loop c30L0))))))))
def c30 : ICode := b30
theorem w30 : W x Q c30 ks fr H ms = W x Q b30 ks fr H ms := rfl
def r30 : List IRes := [(.tmp 6)]
theorem t30 : Try.f30.body.bind (trCode Try.prog Try.f30.ntmps) = some (strip c30) := by kernel_rfl
theorem q30 : trRes Try.prog Try.f30.results.toList = some r30 := by kernel_rfl
theorem fn30 : Try.prog.funcs[30]? = some Try.f30 := by kernel_rfl
theorem nn30 : (Try.f30.name == "runtime.NumGoroutine") = false := by kernel_rfl
theorem nt30 : Try.f30.ntmps = 62 := by kernel_rfl
abbrev b77T1 : ICode :=
  (.keep [5] (.seq (.ops [⟨some 26,(.mv (.t 5)),none⟩,⟨some 4,(.mv (.t 26)),none⟩])
  .ret))
def c77T1 : ICode := b77T1
theorem w77T1 : W x Q c77T1 ks fr H ms = W x Q b77T1 ks fr H ms := rfl
/- live: [5,11,12,13] -/
abbrev b77L0 : ICode :=
  (.seq (.ops [⟨some 14,(.bin .lss (.t 13) (.t 12)),none⟩])
  (.seq (.cond (.t 14)
    .skip
    (.exit 0))
  (.seq (.block 1 (.seq (.ops [⟨some 15,(.mv (.t 13)),none⟩,⟨some 16,(.ixS 1 (.t 11) (.t 13)),none⟩,⟨some 17,(.load false 1 (.t 16)),none⟩,⟨some 6,(.mv (.t 15)),none⟩,⟨some 7,(.mv (.t 17)),none⟩])
  (.ops [⟨some 18,(.mv (.t 5)),none⟩,⟨some 19,(.mv (.t 6)),none⟩,⟨some 20,(.ixS 1 (.t 18) (.t 19)),none⟩,⟨some 21,(.load false 1 (.t 20)),none⟩,⟨some 22,(.mv (.t 7)),none⟩,⟨some 23,(.bin .sub (.t 21) (.t 22)),none⟩,⟨some 24,(.ixS 1 (.t 18) (.t 19)),none⟩,⟨none,(.store 1 (.t 24) (.t 23)),none⟩])))
  (.ops [⟨some 25,(.bin .add (.t 13) (.k (I 1))),none⟩,⟨some 13,(.mv (.t 25)),none⟩]))))
def c77L0 : ICode := b77L0
theorem w77L0 : W x Q c77L0 ks fr H ms = W x Q b77L0 ks fr H ms := rfl
abbrev b77 : ICode :=
  (.seq (.ops [⟨some 4,(.mv (.k nilSl)),none⟩])
  (.seq (.ops [⟨some 8,(.bslice 1 0 [(I 0)] []),none⟩,⟨some 9,(.mv (.t 0)),none⟩,⟨some 10,(.append 1 8 (.t 8) (.t 9)),none⟩,⟨some 5,(.mv (.t 10)),none⟩])
  (.seq (.seq (.ops [⟨some 11,(.mv (.t 1)),none⟩,⟨some 12,(.len (.t 11)),none⟩,⟨some 13,(.mv (.k (I 0))),none⟩])
  (.block 0 (.loop c77L0)))
  c77T1)))
def c77 : ICode := b77
theorem w77 : W x Q c77 ks fr H ms = W x Q b77 ks fr H ms := rfl
def r77 : List IRes := [(.tmp 4)]
theorem t77 : Try.f77.body.bind (trCode Try.prog Try.f77.ntmps) = some (strip c77) := by kernel_rfl
theorem q77 : trRes Try.prog Try.f77.results.toList = some r77 := by kernel_rfl
theorem fn77 : Try.prog.funcs[77]? = some Try.f77 := by kernel_rfl
theorem nn77 : (Try.f77.name == "runtime.NumGoroutine") = false := by kernel_rfl
theorem nt77 : Try.f77.ntmps = 27 := by kernel_rfl
abbrev b78T1 : ICode :=
  (.keep [0,5] (.seq (.ops [⟨some 19,(.mv (.t 0)),none⟩,⟨some 20,(.mv (.t 5)),none⟩,⟨some 21,(.call (.k (.fn (.func 108) [] [])) [(.t 19),(.t 20)]),none⟩,⟨some 4,(.mv (.t 21)),none⟩])
  .ret))
def c78T1 : ICode := b78T1
theorem w78T1 : W x Q c78T1 ks fr H ms = W x Q b78T1 ks fr H ms := rfl
/- live: [0,5,8,9,10] -/
abbrev b78L0 : ICode :=
  (.seq (.ops [⟨some 11,(.bin .lss (.t 10) (.t 9)),none⟩])
  (.seq (.cond (.t 11)
    .skip
    (.exit 0))
  (.seq (.block 1 (.seq (.ops [⟨some 12,(.ixS 1 (.t 8) (.t 10)),none⟩,⟨some 13,(.load false 1 (.t 12)),none⟩,⟨some 7,(.mv (.t 13)),none⟩])
  (.ops [⟨some 14,(.mv (.t 5)),none⟩,⟨some 15,(.bin .mul (.k (I 8192)) (.t 14)),none⟩,⟨some 16,(.mv (.t 7)),none⟩,⟨some 17,(.bin .add (.t 15) (.t 16)),none⟩,⟨some 5,(.mv (.t 17)),none⟩])))
  (.ops [⟨some 18,(.bin .add (.t 10) (.k (I 1))),none⟩,⟨some 10,(.mv (.t 18)),none⟩]))))
def c78L0 : ICode := b78L0
theorem w78L0 : W x Q c78L0 ks fr H ms = W x Q b78L0 ks fr H ms := rfl
abbrev b78 : ICode :=
  (.seq (.ops [⟨some 4,(.mv (.k (B false))),none⟩])
  (.seq (.ops [⟨some 5,(.mv (.k (I 1))),none⟩])
  (.seq (.seq (.ops [⟨some 8,(.mv (.t 1)),none⟩,⟨some 9,(.len (.t 8)),none⟩,⟨some 10,(.mv (.k (I 0))),none⟩])
  (.block 0 (.loop c78L0)))
  c78T1)))
def c78 : ICode := b78
theorem w78 : W x Q c78 ks fr H ms = W x Q b78 ks fr H ms := rfl
def r78 : List IRes := [(.tmp 4)]
theorem t78 : Try.f78.body.bind (trCode Try.prog Try.f78.ntmps) = some (strip c78) := by kernel_rfl
theorem q78 : trRes Try.prog Try.f78.results.toList = some r78 := by kernel_rfl
theorem fn78 : Try.prog.funcs[78]? = some Try.f78 := by kernel_rfl
theorem nn78 : (Try.f78.name == "runtime.NumGoroutine") = false := by kernel_rfl
theorem nt78 : Try.f78.ntmps = 22 := by kernel_rfl
abbrev b108T3 : ICode :=
  (.keep [0,1,8] (.seq (.seq (.ops [⟨some 84,(.mv (.t 0)),none⟩,⟨some 85,(.nilck (.t 84)),none⟩,⟨some 86,(.fldA 0 (.t 85)),none⟩,⟨some 87,(.load false 1 (.t 86)),none⟩,⟨some 88,(.mv (.t 8)),none⟩,⟨some 89,(.ixS 1 (.t 87) (.t 88)),none⟩,⟨some 90,(.load false 1 (.t 89)),none⟩,⟨some 91,(.mv (.t 1)),none⟩,⟨some 92,(.bin .eql (.t 90) (.t 91)),none⟩])
  (.cond (.t 92)
    (.seq (.ops [⟨some 4,(.mv (.k (B false))),none⟩])
    .ret)
    .skip))
  (.seq (.ops [⟨some 93,(.mv (.t 0)),none⟩,⟨some 94,(.nilck (.t 93)),none⟩,⟨some 95,(.fldA 0 (.t 94)),none⟩,⟨some 96,(.load false 1 (.t 95)),none⟩,⟨some 97,(.mv (.t 8)),none⟩,⟨some 98,(.mv (.t 1)),none⟩,⟨some 99,(.ixS 1 (.t 96) (.t 97)),none⟩,⟨none,(.store 1 (.t 99) (.t 98)),none⟩])
  (.seq (.ops [⟨some 100,(.mv (.t 0)),none⟩,⟨some 101,(.nilck (.t 100)),none⟩,⟨some 102,(.fldA 1 (.t 101)),none⟩,⟨some 103,(.load false 1 (.t 102)),none⟩,⟨some 104,(.bin .add (.t 103) (.k (I 1))),none⟩,⟨some 105,(.nilck (.t 100)),none⟩,⟨some 106,(.fldA 1 (.t 105)),none⟩,⟨none,(.store 1 (.t 106) (.t 104)),none⟩])
  (.seq (.ops [⟨some 4,(.mv (.k (B true))),none⟩])
  .ret)))))
def c108T3 : ICode := b108T3
theorem w108T3 : W x Q c108T3 ks fr H ms = W x Q b108T3 ks fr H ms := rfl
/- live: [0,1,8] -/
abbrev b108L2 : ICode :=
  (.seq (.seq (.ops [⟨some 56,(.mv (.t 0)),none⟩,⟨some 57,(.nilck (.t 56)),none⟩,⟨some 58,(.fldA 0 (.t 57)),none⟩,⟨some 59,(.load false 1 (.t 58)),none⟩,⟨some 60,(.mv (.t 8)),none⟩,⟨some 61,(.ixS 1 (.t 59) (.t 60)),none⟩,⟨some 62,(.load false 1 (.t 61)),none⟩,⟨some 63,(.bin .neq (.t 62) (.k (I 0))),none⟩,⟨some 64,(.mv (.t 63)),none⟩,⟨some 65,(.mv (.t 0)),some (64,true)⟩,⟨some 66,(.nilck (.t 65)),some (64,true)⟩,⟨some 67,(.fldA 0 (.t 66)),some (64,true)⟩,⟨some 68,(.load false 1 (.t 67)),some (64,true)⟩,⟨some 69,(.mv (.t 8)),some (64,true)⟩,⟨some 70,(.ixS 1 (.t 68) (.t 69)),some (64,true)⟩,⟨some 71,(.load false 1 (.t 70)),some (64,true)⟩,⟨some 72,(.mv (.t 1)),some (64,true)⟩,⟨some 73,(.bin .neq (.t 71) (.t 72)),some (64,true)⟩,⟨some 74,(.pick (.t 64) (.t 73) (.k (B false))),none⟩])
  (.cond (.t 74)
    .skip
    (.exit 2)))
  (.block 3 (.ops [⟨some 75,(.mv (.t 8)),none⟩,⟨some 76,(.bin .add (.t 75) (.k (I 1))),none⟩,⟨some 77,(.mv (.t 0)),none⟩,⟨some 78,(.nilck (.t 77)),none⟩,⟨some 79,(.fldA 0 (.t 78)),none⟩,⟨some 80,(.load false 1 (.t 79)),none⟩,⟨some 81,(.len (.t 80)),none⟩,⟨some 82,(.bin .sub (.t 81) (.k (I 1))),none⟩,⟨some 83,(.bin .and (.t 76) (.t 82)),none⟩,⟨some 8,(.mv (.t 83)),none⟩])))
def c108L2 : ICode := b108L2
theorem w108L2 : W x Q c108L2 ks fr H ms = W x Q b108L2 ks fr H ms := rfl
abbrev b108T1 : ICode :=
  (.keep [0,1] (.seq (.ops [⟨some 46,(.mv (.t 1)),none⟩,⟨some 47,(.bin .mul (.t 46) (.k (I 2654435761))),none⟩,⟨some 48,(.bin .shr (.t 47) (.k (.val (.int .u64 9)))),none⟩,⟨some 49,(.mv (.t 0)),none⟩,⟨some 50,(.nilck (.t 49)),none⟩,⟨some 51,(.fldA 0 (.t 50)),none⟩,⟨some 52,(.load false 1 (.t 51)),none⟩,⟨some 53,(.len (.t 52)),none⟩,⟨some 54,(.bin .sub (.t 53) (.k (I 1))),none⟩,⟨some 55,(.bin .and (.t 48) (.t 54)),none⟩,⟨some 8,(.mv (.t 55)),none⟩])
  (.seq (.block 2 (.loop c108L2))
  c108T3)))
def c108T1 : ICode := b108T1
theorem w108T1 : W x Q c108T1 ks fr H ms = W x Q b108T1 ks fr H ms := rfl
/- live: [0,1,34,35,36] -/
abbrev b108L0 : ICode :=
  (.seq (.ops [⟨some 37,(.bin .lss (.t 36) (.t 35)),none⟩])
  (.seq (.cond (.t 37)
    .skip
    (.exit 0))
  (.seq (.block 1 (.seq (.ops [⟨some 38,(.ixS 1 (.t 34) (.t 36)),none⟩,⟨some 39,(.load false 1 (.t 38)),none⟩,⟨some 7,(.mv (.t 39)),none⟩])
  (.seq (.ops [⟨some 40,(.mv (.t 7)),none⟩,⟨some 41,(.bin .neq (.t 40) (.k (I 0))),none⟩])
  (.cond (.t 41)
    (.ops [⟨some 42,(.mv (.t 0)),none⟩,⟨some 43,(.mv (.t 7)),none⟩,⟨some 44,(.call (.k (.fn (.func 108) [] [])) [(.t 42),(.t 43)]),none⟩])
    .skip))))
  (.ops [⟨some 45,(.bin .add (.t 36) (.k (I 1))),none⟩,⟨some 36,(.mv (.t 45)),none⟩]))))
def c108L0 : ICode := b108L0
theorem w108L0 : W x Q c108L0 ks fr H ms = W x Q b108L0 ks fr H ms := rfl
abbrev b108 : ICode :=
  (.seq (.ops [⟨some 4,(.mv (.k (B false))),none⟩])
  (.seq (.seq (.draw 0 [] (.early 1 ⟨some 9,(.mv (.t 0)),none⟩
    (.early 1 ⟨some 10,(.nilck (.t 9)),none⟩
    (.early 1 ⟨some 11,(.fldA 1 (.t 10)),none⟩
    (.early 1 ⟨some 12,(.load false 1 (.t 11)),none⟩
    (.early 1 ⟨some 13,(.bin .mul (.k (I 2)) (.t 12)),none⟩
    (.early 1 ⟨some 14,(.mv (.t 0)),none⟩
    (.early 1 ⟨some 15,(.nilck (.t 14)),none⟩
    (.early 1 ⟨some 16,(.fldA 0 (.t 15)),none⟩
    (.early 1 ⟨some 17,(.load false 1 (.t 16)),none⟩
    (.early 1 ⟨some 18,(.len (.t 17)),none⟩
    (.early 0 ⟨some 19,(.bin .geq (.t 13) (.t 18)),none⟩
    .done))))))))))))
  (.keep [0,1,19] (.cond (.t 19)
    (.seq (.ops [⟨some 20,(.mv (.t 0)),none⟩,⟨some 21,(.nilck (.t 20)),none⟩,⟨some 22,(.fldA 0 (.t 21)),none⟩,⟨some 23,(.load false 1 (.t 22)),none⟩,⟨some 5,(.mv (.t 23)),none⟩])
    (.seq (.ops [⟨some 24,(.mv (.t 0)),none⟩,⟨some 25,(.mv (.t 0)),none⟩,⟨some 26,(.mv (.t 5)),none⟩,⟨some 27,(.len (.t 26)),none⟩,⟨some 28,(.bin .mul (.k (I 2)) (.t 27)),none⟩,⟨some 29,(.mksl 1 8 [(I 0)] (.t 28) (.t 28)),none⟩,⟨some 30,(.nilck (.t 24)),none⟩,⟨some 31,(.fldA 0 (.t 30)),none⟩,⟨none,(.store 1 (.t 31) (.t 29)),none⟩,⟨some 32,(.nilck (.t 25)),none⟩,⟨some 33,(.fldA 1 (.t 32)),none⟩,⟨none,(.store 1 (.t 33) (.k (I 0))),none⟩])
    (.seq (.ops [⟨some 34,(.mv (.t 5)),none⟩,⟨some 35,(.len (.t 34)),none⟩,⟨some 36,(.mv (.k (I 0))),none⟩])
    (.block 0 (.loop c108L0)))))
    .skip)))
  c108T1))
def c108 : ICode := b108
theorem w108 : W x Q c108 ks fr H ms = W x Q b108 ks fr H ms := rfl
def r108 : List IRes := [(.tmp 4)]
theorem t108 : Try.f108.body.bind (trCode Try.prog Try.f108.ntmps) = some (strip c108) := by kernel_rfl
theorem q108 : trRes Try.prog Try.f108.results.toList = some r108 := by kernel_rfl
theorem fn108 : Try.prog.funcs[108]? = some Try.f108 := by kernel_rfl
theorem nn108 : (Try.f108.name == "runtime.NumGoroutine") = false := by kernel_rfl
theorem nt108 : Try.f108.ntmps = 107 := by kernel_rfl
end Go.Proofs.Ytipfjfmdjmaflaa
