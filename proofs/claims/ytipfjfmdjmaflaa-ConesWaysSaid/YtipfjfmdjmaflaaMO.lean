/- The code of some functions of the program,cleaned: printed by a program of mine,checked here. -/
import Derived.Test.YtipfjfmdjmaflaaProg
import Derived.Test.YtipfjfmdjmaflaaAS
import Derived.Test.YtipfjfmdjmaflaaKA
import Derived.KernelRfl
namespace Go.Proofs.Ytipfjfmdjmaflaa
open Go.Abs AVal
variable {x : Cx} {Q : QT} {ks : List Kont} {fr : Fr} {H : AHeap} {ms : List Nat}
/- live: [3,7,8,9] -/
abbrev b50T12 : ICode :=
  (.keep [10] (.seq (.ops [⟨some 125,(.mv (.t 10)),none⟩,⟨some 2,(.mv (.t 125)),none⟩])
  .ret))
def c50T12 : ICode := b50T12
theorem w50T12 : W x Q c50T12 ks fr H ms = W x Q b50T12 ks fr H ms := rfl
abbrev b50T11 : ICode :=
  (.keep [10,90,91,92] (.ops [⟨some 124,(.bin .add (.t 92) (.k (I 1))),none⟩,⟨some 92,(.mv (.t 124)),none⟩]))
def c50T11 : ICode := b50T11
theorem w50T11 : W x Q c50T11 ks fr H ms = W x Q b50T11 ks fr H ms := rfl
abbrev b50T10 : ICode :=
  (.keep [10,90,91,92,96,97,98] (.ops [⟨some 123,(.bin .add (.t 98) (.k (I 1))),none⟩,⟨some 98,(.mv (.t 123)),none⟩]))
def c50T10 : ICode := b50T10
theorem w50T10 : W x Q c50T10 ks fr H ms = W x Q b50T10 ks fr H ms := rfl
abbrev b50T9 : ICode :=
  (.keep [10,14,15,90,91,92,96,97,98] (.seq (.ops [⟨some 116,(.mv (.t 15)),none⟩])
  (.cond (.t 116)
    (.ops [⟨some 118,(.mv (.t 10)),none⟩,⟨some 119,(.mv (.t 14)),none⟩,⟨some 120,(.call (.k (.fn (.func 95) [] [])) [(.t 118),(.t 119)]),none⟩,⟨some 117,(.mv (.t 120)),none⟩,⟨some 121,(.ext (.t 117) 0),none⟩,⟨some 122,(.ext (.t 117) 1),none⟩,⟨some 10,(.mv (.t 121)),none⟩])
    .skip)))
def c50T9 : ICode := b50T9
theorem w50T9 : W x Q c50T9 ks fr H ms = W x Q b50T9 ks fr H ms := rfl
/- live: [10,14,15,90,91,92,96,97,98,102,103,104] -/
abbrev b50L8 : ICode :=
  (.seq (.ops [⟨some 105,(.bin .lss (.t 104) (.t 103)),none⟩])
  (.seq (.cond (.t 105)
    .skip
    (.exit 10))
  (.seq (.block 11 (.seq (.ops [⟨some 106,(.ixS 1 (.t 102) (.t 104)),none⟩,⟨some 107,(.load false 1 (.t 106)),none⟩,⟨some 17,(.mv (.t 107)),none⟩])
  (.ops [⟨some 108,(.mv (.t 15)),none⟩,⟨some 109,(.mv (.t 108)),none⟩,⟨some 110,(.mv (.t 17)),some (109,true)⟩,⟨some 111,(.mv (.t 14)),some (109,true)⟩,⟨some 112,(.call (.k (.fn (.func 26) [] [])) [(.t 110),(.t 111)]),some (109,true)⟩,⟨some 113,(.un .not (.t 112)),some (109,true)⟩,⟨some 114,(.pick (.t 109) (.t 113) (.k (B false))),none⟩,⟨some 15,(.mv (.t 114)),none⟩])))
  (.ops [⟨some 115,(.bin .add (.t 104) (.k (I 1))),none⟩,⟨some 104,(.mv (.t 115)),none⟩]))))
def c50L8 : ICode := b50L8
theorem w50L8 : W x Q c50L8 ks fr H ms = W x Q b50L8 ks fr H ms := rfl
/- live: [10,90,91,92,96,97,98] -/
abbrev b50L7 : ICode :=
  (.seq (.ops [⟨some 99,(.bin .lss (.t 98) (.t 97)),none⟩])
  (.seq (.cond (.t 99)
    .skip
    (.exit 8))
  (.seq (.block 9 (.seq (.ops [⟨some 100,(.ixS 1 (.t 96) (.t 98)),none⟩,⟨some 101,(.load false 1 (.t 100)),none⟩,⟨some 14,(.mv (.t 101)),none⟩])
  (.seq (.ops [⟨some 15,(.mv (.k (B true))),none⟩])
  (.seq (.seq (.ops [⟨some 102,(.mv (.t 10)),none⟩,⟨some 103,(.len (.t 102)),none⟩,⟨some 104,(.mv (.k (I 0))),none⟩])
  (.block 10 (.loop c50L8)))
  c50T9))))
  c50T10)))
def c50L7 : ICode := b50L7
theorem w50L7 : W x Q c50L7 ks fr H ms = W x Q b50L7 ks fr H ms := rfl
/- live: [10,90,91,92] -/
abbrev b50L6 : ICode :=
  (.seq (.ops [⟨some 93,(.bin .lss (.t 92) (.t 91)),none⟩])
  (.seq (.cond (.t 93)
    .skip
    (.exit 6))
  (.seq (.block 7 (.seq (.ops [⟨some 94,(.ixS 1 (.t 90) (.t 92)),none⟩,⟨some 95,(.load false 1 (.t 94)),none⟩,⟨some 12,(.mv (.t 95)),none⟩])
  (.seq (.ops [⟨some 96,(.mv (.t 12)),none⟩,⟨some 97,(.len (.t 96)),none⟩,⟨some 98,(.mv (.k (I 0))),none⟩])
  (.block 8 (.loop c50L7)))))
  c50T11)))
def c50L6 : ICode := b50L6
theorem w50L6 : W x Q c50L6 ks fr H ms = W x Q b50L6 ks fr H ms := rfl
abbrev b50T5 : ICode :=
  (.keep [4] (.seq (.ops [⟨some 10,(.mv (.k nilSl)),none⟩])
  (.seq (.seq (.ops [⟨some 89,(.mv (.t 4)),none⟩,⟨some 90,(.slS 1 (.t 89) (some (.k (I 1))) none none),none⟩,⟨some 91,(.len (.t 90)),none⟩,⟨some 92,(.mv (.k (I 0))),none⟩])
  (.block 6 (.loop c50L6)))
  c50T12)))
def c50T5 : ICode := b50T5
theorem w50T5 : W x Q c50T5 ks fr H ms = W x Q b50T5 ks fr H ms := rfl
abbrev b50T4 : ICode :=
  (.keep [0,3,4,5,9] (.seq (.ops [⟨some 79,(.mv (.t 9)),none⟩,⟨some 80,(.bin .lss (.t 79) (.k (I 0))),none⟩,⟨some 7,(.mv (.t 80)),none⟩])
  (.seq (.ops [⟨some 81,(.mv (.t 7)),none⟩,⟨some 82,(.un .not (.t 81)),none⟩])
  (.cond (.t 82)
    (.ops [⟨some 83,(.mv (.t 5)),none⟩,⟨some 84,(.mv (.t 9)),none⟩,⟨some 85,(.ixS 1 (.t 83) (.t 84)),none⟩,⟨some 86,(.load false 1 (.t 85)),none⟩,⟨some 87,(.bin .add (.t 86) (.k (I 1))),none⟩,⟨some 88,(.ixS 1 (.t 83) (.t 84)),none⟩,⟨none,(.store 1 (.t 88) (.t 87)),none⟩])
    .skip))))
def c50T4 : ICode := b50T4
theorem w50T4 : W x Q c50T4 ks fr H ms = W x Q b50T4 ks fr H ms := rfl
/- live: [0,3,4,5,9] -/
abbrev b50L3 : ICode :=
  (.seq (.seq (.ops [⟨some 62,(.mv (.t 9)),none⟩,⟨some 63,(.bin .geq (.t 62) (.k (I 0))),none⟩,⟨some 64,(.mv (.t 63)),none⟩,⟨some 65,(.mv (.t 5)),some (64,true)⟩,⟨some 66,(.mv (.t 9)),some (64,true)⟩,⟨some 67,(.ixS 1 (.t 65) (.t 66)),some (64,true)⟩,⟨some 68,(.load false 1 (.t 67)),some (64,true)⟩,⟨some 69,(.mv (.t 3)),some (64,true)⟩,⟨some 70,(.bin .eql (.t 68) (.t 69)),some (64,true)⟩,⟨some 71,(.pick (.t 64) (.t 70) (.k (B false))),none⟩])
  (.cond (.t 71)
    .skip
    (.exit 4)))
  (.block 5 (.seq (.ops [⟨some 72,(.mv (.t 5)),none⟩,⟨some 73,(.mv (.t 9)),none⟩,⟨some 74,(.mv (.t 3)),none⟩,⟨some 75,(.un .neg (.t 74)),none⟩,⟨some 76,(.ixS 1 (.t 72) (.t 73)),none⟩,⟨none,(.store 1 (.t 76) (.t 75)),none⟩])
  (.ops [⟨some 77,(.mv (.t 9)),none⟩,⟨some 78,(.bin .sub (.t 77) (.k (I 1))),none⟩,⟨some 9,(.mv (.t 78)),none⟩]))))
def c50L3 : ICode := b50L3
theorem w50L3 : W x Q c50L3 ks fr H ms = W x Q b50L3 ks fr H ms := rfl
/- live: [0,3,4,5,7] -/
abbrev b50L2 : ICode :=
  (.seq (.seq (.ops [⟨some 40,(.mv (.t 7)),none⟩,⟨some 41,(.un .not (.t 40)),none⟩])
  (.cond (.t 41)
    .skip
    (.exit 2)))
  (.block 3 (.seq (.seq (.ops [⟨some 42,(.mv (.t 0)),none⟩,⟨some 43,(.mv (.t 5)),none⟩,⟨some 44,(.call (.k (.fn (.func 54) [] [])) [(.t 42),(.t 43)]),none⟩])
  (.cond (.t 44)
    (.seq (.ops [⟨some 45,(.mv (.t 5)),none⟩,⟨some 46,(.call (.k (.fn (.func 94) [] [])) [(.t 45)]),none⟩,⟨some 8,(.mv (.t 46)),none⟩])
    (.draw 4 [] (.early 2 ⟨some 47,(.mv (.t 4)),none⟩
      (.early 2 ⟨some 48,(.mv (.t 8)),none⟩
      (.early 2 ⟨some 49,(.mv (.t 4)),none⟩
      (.early 2 ⟨some 50,(.mv (.t 8)),none⟩
      (.early 2 ⟨some 51,(.ixS 1 (.t 49) (.t 50)),none⟩
      (.early 1 ⟨some 54,(.mv (.t 5)),none⟩
      (.both (.step 0 2 ⟨some 52,(.load false 1 (.t 51)),none⟩
        (.step 0 1 ⟨some 53,(.bslice 1 0 [(I 0)] []),none⟩
        (.step 1 1 ⟨some 55,(.append 1 8 (.t 53) (.t 54)),none⟩
        (.step 2 1 ⟨some 56,(.bslice 1 1 [nilSl] [(0,1,(.t 55))]),none⟩
        (.step 3 1 ⟨some 57,(.append 1 24 (.t 52) (.t 56)),none⟩
        (.early 0 ⟨some 58,(.ixS 1 (.t 47) (.t 48)),none⟩
        (.step 4 0 ⟨none,(.store 1 (.t 58) (.t 57)),none⟩
        .done)))))))
      (.step 0 1 ⟨some 53,(.bslice 1 0 [(I 0)] []),none⟩
        (.both (.step 0 2 ⟨some 52,(.load false 1 (.t 51)),none⟩
          (.step 1 1 ⟨some 55,(.append 1 8 (.t 53) (.t 54)),none⟩
          (.step 2 1 ⟨some 56,(.bslice 1 1 [nilSl] [(0,1,(.t 55))]),none⟩
          (.step 3 1 ⟨some 57,(.append 1 24 (.t 52) (.t 56)),none⟩
          (.early 0 ⟨some 58,(.ixS 1 (.t 47) (.t 48)),none⟩
          (.step 4 0 ⟨none,(.store 1 (.t 58) (.t 57)),none⟩
          .done))))))
        (.step 1 1 ⟨some 55,(.append 1 8 (.t 53) (.t 54)),none⟩
          (.both (.step 0 2 ⟨some 52,(.load false 1 (.t 51)),none⟩
            (.step 2 1 ⟨some 56,(.bslice 1 1 [nilSl] [(0,1,(.t 55))]),none⟩
            (.step 3 1 ⟨some 57,(.append 1 24 (.t 52) (.t 56)),none⟩
            (.early 0 ⟨some 58,(.ixS 1 (.t 47) (.t 48)),none⟩
            (.step 4 0 ⟨none,(.store 1 (.t 58) (.t 57)),none⟩
            .done)))))
          (.step 2 1 ⟨some 56,(.bslice 1 1 [nilSl] [(0,1,(.t 55))]),none⟩
            (.step 0 2 ⟨some 52,(.load false 1 (.t 51)),none⟩
            (.step 3 1 ⟨some 57,(.append 1 24 (.t 52) (.t 56)),none⟩
            (.early 0 ⟨some 58,(.ixS 1 (.t 47) (.t 48)),none⟩
            (.step 4 0 ⟨none,(.store 1 (.t 58) (.t 57)),none⟩
            .done))))))))))))))))))
    .skip))
  (.seq (.ops [⟨some 59,(.mv (.t 5)),none⟩,⟨some 60,(.len (.t 59)),none⟩,⟨some 61,(.bin .sub (.t 60) (.k (I 1))),none⟩,⟨some 9,(.mv (.t 61)),none⟩])
  (.seq (.block 4 (.loop c50L3))
  c50T4)))))
def c50L2 : ICode := b50L2
theorem w50L2 : W x Q c50L2 ks fr H ms = W x Q b50L2 ks fr H ms := rfl
abbrev b50T1 : ICode :=
  (.keep [0,3,4,5] (.seq (.seq (.ops [⟨some 7,(.mv (.k (B false))),none⟩])
  (.block 2 (.loop c50L2)))
  c50T5))
def c50T1 : ICode := b50T1
theorem w50T1 : W x Q c50T1 ks fr H ms = W x Q b50T1 ks fr H ms := rfl
/- live: [0,3,4,5,30,31] -/
abbrev b50L0 : ICode :=
  (.seq (.ops [⟨some 32,(.bin .lss (.t 31) (.t 30)),none⟩])
  (.seq (.cond (.t 32)
    .skip
    (.exit 0))
  (.seq (.block 1 (.seq (.ops [⟨some 33,(.mv (.t 31)),none⟩,⟨some 6,(.mv (.t 33)),none⟩])
  (.ops [⟨some 34,(.mv (.t 5)),none⟩,⟨some 35,(.mv (.t 6)),none⟩,⟨some 36,(.mv (.t 3)),none⟩,⟨some 37,(.un .neg (.t 36)),none⟩,⟨some 38,(.ixS 1 (.t 34) (.t 35)),none⟩,⟨none,(.store 1 (.t 38) (.t 37)),none⟩])))
  (.ops [⟨some 39,(.bin .add (.t 31) (.k (I 1))),none⟩,⟨some 31,(.mv (.t 39)),none⟩]))))
def c50L0 : ICode := b50L0
theorem w50L0 : W x Q c50L0 ks fr H ms = W x Q b50L0 ks fr H ms := rfl
abbrev b50 : ICode :=
  (.seq (.ops [⟨some 2,(.mv (.k nilSl)),none⟩])
  (.seq (.ops [⟨some 18,(.mv (.t 0)),none⟩,⟨some 19,(.call (.k (.fn (.func 93) [] [])) [(.t 18)]),none⟩,⟨some 3,(.mv (.t 19)),none⟩])
  (.seq (.ops [⟨some 20,(.mv (.t 3)),none⟩,⟨some 21,(.bin .mul (.k (I 4)) (.t 20)),none⟩,⟨some 22,(.bin .add (.t 21) (.k (I 1))),none⟩,⟨some 23,(.mksl 1 24 [nilSl] (.t 22) (.t 22)),none⟩,⟨some 4,(.mv (.t 23)),none⟩])
  (.seq (.ops [⟨some 24,(.mv (.t 0)),none⟩,⟨some 25,(.ixS 1 (.t 24) (.k (I 0))),none⟩,⟨some 26,(.load false 1 (.t 25)),none⟩,⟨some 27,(.len (.t 26)),none⟩,⟨some 28,(.mksl 1 8 [(I 0)] (.t 27) (.t 27)),none⟩,⟨some 5,(.mv (.t 28)),none⟩])
  (.seq (.seq (.ops [⟨some 29,(.mv (.t 5)),none⟩,⟨some 30,(.len (.t 29)),none⟩,⟨some 31,(.mv (.k (I 0))),none⟩])
  (.block 0 (.loop c50L0)))
  c50T1)))))
def c50 : ICode := b50
theorem w50 : W x Q c50 ks fr H ms = W x Q b50 ks fr H ms := rfl
def r50 : List IRes := [(.tmp 2)]
theorem t50 : Try.f50.body.bind ((trCodeX [(13,32)]) Try.prog Try.f50.ntmps) = some (strip c50) := by kernel_rfl
theorem q50 : trRes Try.prog Try.f50.results.toList = some r50 := by kernel_rfl
theorem fn50 : Try.prog.funcs[50]? = some Try.f50 := by kernel_rfl
theorem nn50 : (Try.f50.name == "runtime.NumGoroutine") = false := by kernel_rfl
theorem nt50 : Try.f50.ntmps = 126 := by kernel_rfl
abbrev b54T4 : ICode :=
  (.keep [] (.seq (.ops [⟨some 4,(.mv (.k (B true))),none⟩])
  .ret))
def c54T4 : ICode := b54T4
theorem w54T4 : W x Q c54T4 ks fr H ms = W x Q b54T4 ks fr H ms := rfl
abbrev b54T3 : ICode :=
  (.keep [1,10,11,12] (.ops [⟨some 34,(.bin .add (.t 12) (.k (I 1))),none⟩,⟨some 12,(.mv (.t 34)),none⟩]))
def c54T3 : ICode := b54T3
theorem w54T3 : W x Q c54T3 ks fr H ms = W x Q b54T3 ks fr H ms := rfl
abbrev b54T2 : ICode :=
  (.keep [1,7,10,11,12] (.seq (.ops [⟨some 32,(.mv (.t 7)),none⟩,⟨some 33,(.bin .neq (.t 32) (.k (I 0))),none⟩])
  (.cond (.t 33)
    (.seq (.ops [⟨some 4,(.mv (.k (B false))),none⟩])
    .ret)
    .skip)))
def c54T2 : ICode := b54T2
theorem w54T2 : W x Q c54T2 ks fr H ms = W x Q b54T2 ks fr H ms := rfl
/- live: [1,6,7,10,11,12,16,17,18] -/
abbrev b54L1 : ICode :=
  (.seq (.ops [⟨some 19,(.bin .lss (.t 18) (.t 17)),none⟩])
  (.seq (.cond (.t 19)
    .skip
    (.exit 2))
  (.seq (.block 3 (.seq (.ops [⟨some 20,(.mv (.t 18)),none⟩,⟨some 21,(.ixS 1 (.t 16) (.t 18)),none⟩,⟨some 22,(.load false 1 (.t 21)),none⟩,⟨some 8,(.mv (.t 20)),none⟩,⟨some 9,(.mv (.t 22)),none⟩])
  (.ops [⟨some 23,(.mv (.t 7)),none⟩,⟨some 24,(.mv (.t 6)),none⟩,⟨some 25,(.mv (.t 8)),none⟩,⟨some 26,(.ixS 1 (.t 24) (.t 25)),none⟩,⟨some 27,(.load false 1 (.t 26)),none⟩,⟨some 28,(.mv (.t 9)),none⟩,⟨some 29,(.bin .mul (.t 27) (.t 28)),none⟩,⟨some 30,(.bin .add (.t 23) (.t 29)),none⟩,⟨some 7,(.mv (.t 30)),none⟩])))
  (.ops [⟨some 31,(.bin .add (.t 18) (.k (I 1))),none⟩,⟨some 18,(.mv (.t 31)),none⟩]))))
def c54L1 : ICode := b54L1
theorem w54L1 : W x Q c54L1 ks fr H ms = W x Q b54L1 ks fr H ms := rfl
/- live: [1,10,11,12] -/
abbrev b54L0 : ICode :=
  (.seq (.ops [⟨some 13,(.bin .lss (.t 12) (.t 11)),none⟩])
  (.seq (.cond (.t 13)
    .skip
    (.exit 0))
  (.seq (.block 1 (.seq (.ops [⟨some 14,(.ixS 1 (.t 10) (.t 12)),none⟩,⟨some 15,(.load false 1 (.t 14)),none⟩,⟨some 6,(.mv (.t 15)),none⟩])
  (.seq (.ops [⟨some 7,(.mv (.k (I 0))),none⟩])
  (.seq (.seq (.ops [⟨some 16,(.mv (.t 1)),none⟩,⟨some 17,(.len (.t 16)),none⟩,⟨some 18,(.mv (.k (I 0))),none⟩])
  (.block 2 (.loop c54L1)))
  c54T2))))
  c54T3)))
def c54L0 : ICode := b54L0
theorem w54L0 : W x Q c54L0 ks fr H ms = W x Q b54L0 ks fr H ms := rfl
abbrev b54 : ICode :=
  (.seq (.ops [⟨some 4,(.mv (.k (B false))),none⟩])
  (.seq (.seq (.ops [⟨some 10,(.mv (.t 0)),none⟩,⟨some 11,(.len (.t 10)),none⟩,⟨some 12,(.mv (.k (I 0))),none⟩])
  (.block 0 (.loop c54L0)))
  c54T4))
def c54 : ICode := b54
theorem w54 : W x Q c54 ks fr H ms = W x Q b54 ks fr H ms := rfl
def r54 : List IRes := [(.tmp 4)]
theorem t54 : Try.f54.body.bind (trCode Try.prog Try.f54.ntmps) = some (strip c54) := by kernel_rfl
theorem q54 : trRes Try.prog Try.f54.results.toList = some r54 := by kernel_rfl
theorem fn54 : Try.prog.funcs[54]? = some Try.f54 := by kernel_rfl
theorem nn54 : (Try.f54.name == "runtime.NumGoroutine") = false := by kernel_rfl
theorem nt54 : Try.f54.ntmps = 35 := by kernel_rfl
/- live: [1,7,8,16,17,18] -/
abbrev b75 : ICode :=
  (.seq (.ops [⟨some 4,(.mv (.k (B false))),none⟩])
  (.seq (.ops [⟨some 5,(.mv (.t 0)),none⟩,⟨some 6,(.mv (.t 1)),none⟩,⟨some 7,(.call (.k (.fn (.func 83) [] [])) [(.t 5),(.t 6)]),none⟩,⟨some 8,(.un .not (.t 7)),none⟩,⟨some 9,(.mv (.t 8)),none⟩,⟨some 10,(.mv (.t 1)),some (9,true)⟩,⟨some 11,(.mv (.t 0)),some (9,true)⟩,⟨some 12,(.call (.k (.fn (.func 83) [] [])) [(.t 10),(.t 11)]),some (9,true)⟩,⟨some 13,(.un .not (.t 12)),some (9,true)⟩,⟨some 14,(.pick (.t 9) (.t 13) (.k (B false))),none⟩,⟨some 4,(.mv (.t 14)),none⟩])
  .ret))
def c75 : ICode := b75
theorem w75 : W x Q c75 ks fr H ms = W x Q b75 ks fr H ms := rfl
def r75 : List IRes := [(.tmp 4)]
theorem t75 : Try.f75.body.bind (trCode Try.prog Try.f75.ntmps) = some (strip c75) := by kernel_rfl
theorem q75 : trRes Try.prog Try.f75.results.toList = some r75 := by kernel_rfl
theorem fn75 : Try.prog.funcs[75]? = some Try.f75 := by kernel_rfl
theorem nn75 : (Try.f75.name == "runtime.NumGoroutine") = false := by kernel_rfl
theorem nt75 : Try.f75.ntmps = 15 := by kernel_rfl
abbrev b76T1 : ICode :=
  (.keep [] (.seq (.ops [⟨some 4,(.mv (.k (B false))),none⟩])
  .ret))
def c76T1 : ICode := b76T1
theorem w76T1 : W x Q c76T1 ks fr H ms = W x Q b76T1 ks fr H ms := rfl
/- live: [1,7,8,9] -/
abbrev b76L0 : ICode :=
  (.seq (.ops [⟨some 10,(.bin .lss (.t 9) (.t 8)),none⟩])
  (.seq (.cond (.t 10)
    .skip
    (.exit 0))
  (.seq (.block 1 (.seq (.ops [⟨some 11,(.ixS 1 (.t 7) (.t 9)),none⟩,⟨some 12,(.load false 1 (.t 11)),none⟩,⟨some 6,(.mv (.t 12)),none⟩])
  (.seq (.ops [⟨some 13,(.mv (.t 1)),none⟩,⟨some 14,(.len (.t 13)),none⟩,⟨some 15,(.mv (.t 6)),none⟩,⟨some 16,(.len (.t 15)),none⟩,⟨some 17,(.bin .eql (.t 14) (.t 16)),none⟩,⟨some 18,(.mv (.t 17)),none⟩,⟨some 19,(.mv (.t 1)),some (18,true)⟩,⟨some 20,(.mv (.t 6)),some (18,true)⟩,⟨some 21,(.call (.k (.fn (.func 75) [] [])) [(.t 19),(.t 20)]),some (18,true)⟩,⟨some 22,(.pick (.t 18) (.t 21) (.k (B false))),none⟩])
  (.cond (.t 22)
    (.seq (.ops [⟨some 4,(.mv (.k (B true))),none⟩])
    .ret)
    .skip))))
  (.ops [⟨some 23,(.bin .add (.t 9) (.k (I 1))),none⟩,⟨some 9,(.mv (.t 23)),none⟩]))))
def c76L0 : ICode := b76L0
theorem w76L0 : W x Q c76L0 ks fr H ms = W x Q b76L0 ks fr H ms := rfl
abbrev b76 : ICode :=
  (.seq (.ops [⟨some 4,(.mv (.k (B false))),none⟩])
  (.seq (.seq (.ops [⟨some 7,(.mv (.t 0)),none⟩,⟨some 8,(.len (.t 7)),none⟩,⟨some 9,(.mv (.k (I 0))),none⟩])
  (.block 0 (.loop c76L0)))
  c76T1))
def c76 : ICode := b76
theorem w76 : W x Q c76 ks fr H ms = W x Q b76 ks fr H ms := rfl
def r76 : List IRes := [(.tmp 4)]
theorem t76 : Try.f76.body.bind (trCode Try.prog Try.f76.ntmps) = some (strip c76) := by kernel_rfl
theorem q76 : trRes Try.prog Try.f76.results.toList = some r76 := by kernel_rfl
theorem fn76 : Try.prog.funcs[76]? = some Try.f76 := by kernel_rfl
theorem nn76 : (Try.f76.name == "runtime.NumGoroutine") = false := by kernel_rfl
theorem nt76 : Try.f76.ntmps = 24 := by kernel_rfl
abbrev b79T1 : ICode :=
  (.keep [5] (.seq (.ops [⟨some 26,(.mv (.t 5)),none⟩,⟨some 4,(.mv (.t 26)),none⟩])
  .ret))
def c79T1 : ICode := b79T1
theorem w79T1 : W x Q c79T1 ks fr H ms = W x Q b79T1 ks fr H ms := rfl
/- live: [5,11,12,13] -/
abbrev b79L0 : ICode :=
  (.seq (.ops [⟨some 14,(.bin .lss (.t 13) (.t 12)),none⟩])
  (.seq (.cond (.t 14)
    .skip
    (.exit 0))
  (.seq (.block 1 (.seq (.ops [⟨some 15,(.mv (.t 13)),none⟩,⟨some 16,(.ixS 1 (.t 11) (.t 13)),none⟩,⟨some 17,(.load false 1 (.t 16)),none⟩,⟨some 6,(.mv (.t 15)),none⟩,⟨some 7,(.mv (.t 17)),none⟩])
  (.ops [⟨some 18,(.mv (.t 5)),none⟩,⟨some 19,(.mv (.t 6)),none⟩,⟨some 20,(.ixS 1 (.t 18) (.t 19)),none⟩,⟨some 21,(.load false 1 (.t 20)),none⟩,⟨some 22,(.mv (.t 7)),none⟩,⟨some 23,(.bin .add (.t 21) (.t 22)),none⟩,⟨some 24,(.ixS 1 (.t 18) (.t 19)),none⟩,⟨none,(.store 1 (.t 24) (.t 23)),none⟩])))
  (.ops [⟨some 25,(.bin .add (.t 13) (.k (I 1))),none⟩,⟨some 13,(.mv (.t 25)),none⟩]))))
def c79L0 : ICode := b79L0
theorem w79L0 : W x Q c79L0 ks fr H ms = W x Q b79L0 ks fr H ms := rfl
abbrev b79 : ICode :=
  (.seq (.ops [⟨some 4,(.mv (.k nilSl)),none⟩])
  (.seq (.ops [⟨some 8,(.bslice 1 0 [(I 0)] []),none⟩,⟨some 9,(.mv (.t 0)),none⟩,⟨some 10,(.append 1 8 (.t 8) (.t 9)),none⟩,⟨some 5,(.mv (.t 10)),none⟩])
  (.seq (.seq (.ops [⟨some 11,(.mv (.t 1)),none⟩,⟨some 12,(.len (.t 11)),none⟩,⟨some 13,(.mv (.k (I 0))),none⟩])
  (.block 0 (.loop c79L0)))
  c79T1)))
def c79 : ICode := b79
theorem w79 : W x Q c79 ks fr H ms = W x Q b79 ks fr H ms := rfl
def r79 : List IRes := [(.tmp 4)]
theorem t79 : Try.f79.body.bind (trCode Try.prog Try.f79.ntmps) = some (strip c79) := by kernel_rfl
theorem q79 : trRes Try.prog Try.f79.results.toList = some r79 := by kernel_rfl
theorem fn79 : Try.prog.funcs[79]? = some Try.f79 := by kernel_rfl
theorem nn79 : (Try.f79.name == "runtime.NumGoroutine") = false := by kernel_rfl
theorem nt79 : Try.f79.ntmps = 27 := by kernel_rfl
abbrev b83T1 : ICode :=
  (.keep [] (.seq (.ops [⟨some 4,(.mv (.k (B false))),none⟩])
  .ret))
def c83T1 : ICode := b83T1
theorem w83T1 : W x Q c83T1 ks fr H ms = W x Q b83T1 ks fr H ms := rfl
/- live: [1,7,8,9] -/
abbrev b83L0 : ICode :=
  (.seq (.ops [⟨some 10,(.bin .lss (.t 9) (.t 8)),none⟩])
  (.seq (.cond (.t 10)
    .skip
    (.exit 0))
  (.seq (.block 1 (.seq (.ops [⟨some 11,(.mv (.t 9)),none⟩,⟨some 12,(.ixS 1 (.t 7) (.t 9)),none⟩,⟨some 13,(.load false 1 (.t 12)),none⟩,⟨some 5,(.mv (.t 11)),none⟩,⟨some 6,(.mv (.t 13)),none⟩])
  (.seq (.ops [⟨some 14,(.mv (.t 6)),none⟩,⟨some 15,(.mv (.t 1)),none⟩,⟨some 16,(.mv (.t 5)),none⟩,⟨some 17,(.ixS 1 (.t 15) (.t 16)),none⟩,⟨some 18,(.load false 1 (.t 17)),none⟩,⟨some 19,(.bin .neq (.t 14) (.t 18)),none⟩])
  (.cond (.t 19)
    (.seq (.ops [⟨some 20,(.mv (.t 6)),none⟩,⟨some 21,(.mv (.t 1)),none⟩,⟨some 22,(.mv (.t 5)),none⟩,⟨some 23,(.ixS 1 (.t 21) (.t 22)),none⟩,⟨some 24,(.load false 1 (.t 23)),none⟩,⟨some 25,(.bin .lss (.t 20) (.t 24)),none⟩,⟨some 4,(.mv (.t 25)),none⟩])
    .ret)
    .skip))))
  (.ops [⟨some 26,(.bin .add (.t 9) (.k (I 1))),none⟩,⟨some 9,(.mv (.t 26)),none⟩]))))
def c83L0 : ICode := b83L0
theorem w83L0 : W x Q c83L0 ks fr H ms = W x Q b83L0 ks fr H ms := rfl
abbrev b83 : ICode :=
  (.seq (.ops [⟨some 4,(.mv (.k (B false))),none⟩])
  (.seq (.seq (.ops [⟨some 7,(.mv (.t 0)),none⟩,⟨some 8,(.len (.t 7)),none⟩,⟨some 9,(.mv (.k (I 0))),none⟩])
  (.block 0 (.loop c83L0)))
  c83T1))
def c83 : ICode := b83
theorem w83 : W x Q c83 ks fr H ms = W x Q b83 ks fr H ms := rfl
def r83 : List IRes := [(.tmp 4)]
theorem t83 : Try.f83.body.bind (trCode Try.prog Try.f83.ntmps) = some (strip c83) := by kernel_rfl
theorem q83 : trRes Try.prog Try.f83.results.toList = some r83 := by kernel_rfl
theorem fn83 : Try.prog.funcs[83]? = some Try.f83 := by kernel_rfl
theorem nn83 : (Try.f83.name == "runtime.NumGoroutine") = false := by kernel_rfl
theorem nt83 : Try.f83.ntmps = 27 := by kernel_rfl
abbrev b93T5 : ICode :=
  (.keep [0,3] (.seq (.draw 0 [] (.early 1 ⟨some 61,(.mv (.t 0)),none⟩
    (.early 1 ⟨some 62,(.ixS 1 (.t 61) (.k (I 0))),none⟩
    (.early 1 ⟨some 63,(.load false 1 (.t 62)),none⟩
    (.early 1 ⟨some 64,(.len (.t 63)),none⟩
    (.early 1 ⟨some 65,(.mv (.t 3)),none⟩
    (.early 1 ⟨some 66,(.bin .sub (.t 64) (.t 65)),none⟩
    (.early 1 ⟨some 67,(.mx (.k (I 1)) (.t 66)),none⟩
    (.early 1 ⟨some 68,(.build [(I 0),(I 0),(I 0)] [(0,1,(.k (I 1))),(1,1,(.k (I 2))),(2,1,(.k (I 8)))]),none⟩
    (.early 1 ⟨some 69,(.mv (.t 3)),none⟩
    (.early 1 ⟨some 70,(.ixV false 3 1 (.t 68) (.t 69)),none⟩
    (.early 0 ⟨some 71,(.bin .mul (.t 67) (.t 70)),none⟩
    (.early 0 ⟨some 2,(.mv (.t 71)),none⟩
    .done)))))))))))))
  (.keep [2] .ret)))
def c93T5 : ICode := b93T5
theorem w93T5 : W x Q c93T5 ks fr H ms = W x Q b93T5 ks fr H ms := rfl
abbrev b93T4 : ICode :=
  (.keep [0,3,24,25] (.ops [⟨some 60,(.bin .add (.t 25) (.k (I 1))),none⟩,⟨some 25,(.mv (.t 60)),none⟩]))
def c93T4 : ICode := b93T4
theorem w93T4 : W x Q c93T4 ks fr H ms = W x Q b93T4 ks fr H ms := rfl
/- live: [0,3,6,24,25,28,29] -/
abbrev b93L3 : ICode :=
  (.seq (.ops [⟨some 30,(.bin .lss (.t 29) (.t 28)),none⟩])
  (.seq (.cond (.t 30)
    .skip
    (.exit 4))
  (.seq (.block 5 (.seq (.ops [⟨some 31,(.mv (.t 29)),none⟩,⟨some 7,(.mv (.t 31)),none⟩])
  (.seq (.draw 0 [] (.early 1 ⟨some 32,(.mv (.t 0)),none⟩
    (.early 1 ⟨some 33,(.ixS 1 (.t 32) (.k (I 0))),none⟩
    (.early 1 ⟨some 34,(.load false 1 (.t 33)),none⟩
    (.early 1 ⟨some 35,(.mv (.t 6)),none⟩
    (.early 1 ⟨some 36,(.ixS 1 (.t 34) (.t 35)),none⟩
    (.early 1 ⟨some 37,(.load false 1 (.t 36)),none⟩
    (.early 1 ⟨some 38,(.mv (.t 0)),none⟩
    (.early 1 ⟨some 39,(.ixS 1 (.t 38) (.k (I 1))),none⟩
    (.early 1 ⟨some 40,(.load false 1 (.t 39)),none⟩
    (.early 1 ⟨some 41,(.mv (.t 7)),none⟩
    (.early 1 ⟨some 42,(.ixS 1 (.t 40) (.t 41)),none⟩
    (.early 1 ⟨some 43,(.load false 1 (.t 42)),none⟩
    (.early 1 ⟨some 44,(.bin .mul (.t 37) (.t 43)),none⟩
    (.early 1 ⟨some 45,(.mv (.t 0)),none⟩
    (.early 1 ⟨some 46,(.ixS 1 (.t 45) (.k (I 0))),none⟩
    (.early 1 ⟨some 47,(.load false 1 (.t 46)),none⟩
    (.early 1 ⟨some 48,(.mv (.t 7)),none⟩
    (.early 1 ⟨some 49,(.ixS 1 (.t 47) (.t 48)),none⟩
    (.early 1 ⟨some 50,(.load false 1 (.t 49)),none⟩
    (.early 1 ⟨some 51,(.mv (.t 0)),none⟩
    (.early 1 ⟨some 52,(.ixS 1 (.t 51) (.k (I 1))),none⟩
    (.early 1 ⟨some 53,(.load false 1 (.t 52)),none⟩
    (.early 1 ⟨some 54,(.mv (.t 6)),none⟩
    (.early 1 ⟨some 55,(.ixS 1 (.t 53) (.t 54)),none⟩
    (.early 1 ⟨some 56,(.load false 1 (.t 55)),none⟩
    (.early 1 ⟨some 57,(.bin .mul (.t 50) (.t 56)),none⟩
    (.early 0 ⟨some 58,(.bin .neq (.t 44) (.t 57)),none⟩
    .done))))))))))))))))))))))))))))
  (.keep [0,3,6,24,25,28,29,58] (.cond (.t 58)
    (.ops [⟨some 3,(.mv (.k (I 2))),none⟩])
    .skip)))))
  (.ops [⟨some 59,(.bin .add (.t 29) (.k (I 1))),none⟩,⟨some 29,(.mv (.t 59)),none⟩]))))
def c93L3 : ICode := b93L3
theorem w93L3 : W x Q c93L3 ks fr H ms = W x Q b93L3 ks fr H ms := rfl
/- live: [0,3,24,25] -/
abbrev b93L2 : ICode :=
  (.seq (.ops [⟨some 26,(.bin .lss (.t 25) (.t 24)),none⟩])
  (.seq (.cond (.t 26)
    .skip
    (.exit 2))
  (.seq (.block 3 (.seq (.ops [⟨some 27,(.mv (.t 25)),none⟩,⟨some 6,(.mv (.t 27)),none⟩])
  (.seq (.ops [⟨some 28,(.mv (.t 6)),none⟩,⟨some 29,(.mv (.k (I 0))),none⟩])
  (.block 4 (.loop c93L3)))))
  c93T4)))
def c93L2 : ICode := b93L2
theorem w93L2 : W x Q c93L2 ks fr H ms = W x Q b93L2 ks fr H ms := rfl
abbrev b93T1 : ICode :=
  (.keep [0,3] (.seq (.seq (.ops [⟨some 18,(.mv (.t 0)),none⟩,⟨some 19,(.len (.t 18)),none⟩,⟨some 20,(.bin .eql (.t 19) (.k (I 2))),none⟩])
  (.cond (.t 20)
    (.seq (.ops [⟨some 21,(.mv (.t 0)),none⟩,⟨some 22,(.ixS 1 (.t 21) (.k (I 0))),none⟩,⟨some 23,(.load false 1 (.t 22)),none⟩,⟨some 24,(.len (.t 23)),none⟩,⟨some 25,(.mv (.k (I 0))),none⟩])
    (.block 2 (.loop c93L2)))
    .skip))
  c93T5))
def c93T1 : ICode := b93T1
theorem w93T1 : W x Q c93T1 ks fr H ms = W x Q b93T1 ks fr H ms := rfl
/- live: [0,3,8,9,10] -/
abbrev b93L0 : ICode :=
  (.seq (.ops [⟨some 11,(.bin .lss (.t 10) (.t 9)),none⟩])
  (.seq (.cond (.t 11)
    .skip
    (.exit 0))
  (.seq (.block 1 (.seq (.ops [⟨some 12,(.ixS 1 (.t 8) (.t 10)),none⟩,⟨some 13,(.load false 1 (.t 12)),none⟩,⟨some 5,(.mv (.t 13)),none⟩])
  (.seq (.ops [⟨some 14,(.mv (.t 5)),none⟩,⟨some 15,(.call (.k (.fn (.func 131) [] [])) [(.t 14)]),none⟩,⟨some 16,(.un .not (.t 15)),none⟩])
  (.cond (.t 16)
    (.ops [⟨some 3,(.mv (.k (I 1))),none⟩])
    .skip))))
  (.ops [⟨some 17,(.bin .add (.t 10) (.k (I 1))),none⟩,⟨some 10,(.mv (.t 17)),none⟩]))))
def c93L0 : ICode := b93L0
theorem w93L0 : W x Q c93L0 ks fr H ms = W x Q b93L0 ks fr H ms := rfl
abbrev b93 : ICode :=
  (.seq (.ops [⟨some 2,(.mv (.k (I 0))),none⟩])
  (.seq (.ops [⟨some 3,(.mv (.k (I 0))),none⟩])
  (.seq (.seq (.ops [⟨some 8,(.mv (.t 0)),none⟩,⟨some 9,(.len (.t 8)),none⟩,⟨some 10,(.mv (.k (I 0))),none⟩])
  (.block 0 (.loop c93L0)))
  c93T1)))
def c93 : ICode := b93
theorem w93 : W x Q c93 ks fr H ms = W x Q b93 ks fr H ms := rfl
def r93 : List IRes := [(.tmp 2)]
theorem t93 : Try.f93.body.bind (trCode Try.prog Try.f93.ntmps) = some (strip c93) := by kernel_rfl
theorem q93 : trRes Try.prog Try.f93.results.toList = some r93 := by kernel_rfl
theorem fn93 : Try.prog.funcs[93]? = some Try.f93 := by kernel_rfl
theorem nn93 : (Try.f93.name == "runtime.NumGoroutine") = false := by kernel_rfl
theorem nt93 : Try.f93.ntmps = 72 := by kernel_rfl
abbrev b94T1 : ICode :=
  (.keep [3] (.seq (.ops [⟨some 19,(.mv (.t 3)),none⟩,⟨some 2,(.mv (.t 19)),none⟩])
  .ret))
def c94T1 : ICode := b94T1
theorem w94T1 : W x Q c94T1 ks fr H ms = W x Q b94T1 ks fr H ms := rfl
/- live: [3,6,7,8] -/
abbrev b94L0 : ICode :=
  (.seq (.ops [⟨some 9,(.bin .lss (.t 8) (.t 7)),none⟩])
  (.seq (.cond (.t 9)
    .skip
    (.exit 0))
  (.seq (.block 1 (.seq (.ops [⟨some 10,(.ixS 1 (.t 6) (.t 8)),none⟩,⟨some 11,(.load false 1 (.t 10)),none⟩,⟨some 5,(.mv (.t 11)),none⟩])
  (.ops [⟨some 12,(.mv (.t 3)),none⟩,⟨some 13,(.mv (.t 5)),none⟩,⟨some 14,(.mv (.t 5)),none⟩,⟨some 15,(.un .neg (.t 14)),none⟩,⟨some 16,(.mx (.t 13) (.t 15)),none⟩,⟨some 17,(.bin .add (.t 12) (.t 16)),none⟩,⟨some 3,(.mv (.t 17)),none⟩])))
  (.ops [⟨some 18,(.bin .add (.t 8) (.k (I 1))),none⟩,⟨some 8,(.mv (.t 18)),none⟩]))))
def c94L0 : ICode := b94L0
theorem w94L0 : W x Q c94L0 ks fr H ms = W x Q b94L0 ks fr H ms := rfl
abbrev b94 : ICode :=
  (.seq (.ops [⟨some 2,(.mv (.k (I 0))),none⟩])
  (.seq (.ops [⟨some 3,(.mv (.k (I 0))),none⟩])
  (.seq (.seq (.ops [⟨some 6,(.mv (.t 0)),none⟩,⟨some 7,(.len (.t 6)),none⟩,⟨some 8,(.mv (.k (I 0))),none⟩])
  (.block 0 (.loop c94L0)))
  c94T1)))
def c94 : ICode := b94
theorem w94 : W x Q c94 ks fr H ms = W x Q b94 ks fr H ms := rfl
def r94 : List IRes := [(.tmp 2)]
theorem t94 : Try.f94.body.bind (trCode Try.prog Try.f94.ntmps) = some (strip c94) := by kernel_rfl
theorem q94 : trRes Try.prog Try.f94.results.toList = some r94 := by kernel_rfl
theorem fn94 : Try.prog.funcs[94]? = some Try.f94 := by kernel_rfl
theorem nn94 : (Try.f94.name == "runtime.NumGoroutine") = false := by kernel_rfl
theorem nt94 : Try.f94.ntmps = 20 := by kernel_rfl
abbrev b95T1 : ICode :=
  (.keep [0,1,6] (.seq (.seq (.ops [⟨some 28,(.mv (.t 6)),none⟩,⟨some 29,(.mv (.t 0)),none⟩,⟨some 30,(.len (.t 29)),none⟩,⟨some 31,(.bin .lss (.t 28) (.t 30)),none⟩,⟨some 32,(.mv (.t 31)),none⟩,⟨some 33,(.mv (.t 0)),some (32,true)⟩,⟨some 34,(.mv (.t 6)),some (32,true)⟩,⟨some 35,(.ixS 1 (.t 33) (.t 34)),some (32,true)⟩,⟨some 36,(.load false 1 (.t 35)),some (32,true)⟩,⟨some 37,(.mv (.t 1)),some (32,true)⟩,⟨some 38,(.call (.k (.fn (.func 75) [] [])) [(.t 36),(.t 37)]),some (32,true)⟩,⟨some 39,(.pick (.t 32) (.t 38) (.k (B false))),none⟩])
  (.cond (.t 39)
    (.seq (.ops [⟨some 40,(.mv (.t 0)),none⟩,⟨some 4,(.mv (.t 40)),none⟩,⟨some 5,(.mv (.k (B false))),none⟩])
    .ret)
    .skip))
  (.seq (.ops [⟨some 41,(.mv (.t 0)),none⟩,⟨some 42,(.bslice 1 1 [nilSl] [(0,1,(.k nilSl))]),none⟩,⟨some 43,(.append 1 24 (.t 41) (.t 42)),none⟩,⟨some 9,(.mv (.t 43)),none⟩])
  (.seq (.draw 0 [] (.early 1 ⟨some 44,(.mv (.t 9)),none⟩
    (.early 1 ⟨some 45,(.mv (.t 6)),none⟩
    (.early 1 ⟨some 46,(.bin .add (.t 45) (.k (I 1))),none⟩
    (.early 1 ⟨some 47,(.slS 1 (.t 44) (some (.t 46)) none none),none⟩
    (.early 1 ⟨some 48,(.mv (.t 9)),none⟩
    (.early 1 ⟨some 49,(.mv (.t 6)),none⟩
    (.early 1 ⟨some 50,(.slS 1 (.t 48) (some (.t 49)) none none),none⟩
    (.step 0 0 ⟨some 51,(.copy 1 (.t 47) (.t 50)),none⟩
    .done)))))))))
  (.keep [1,6,9] (.seq (.ops [⟨some 52,(.mv (.t 9)),none⟩,⟨some 53,(.mv (.t 6)),none⟩,⟨some 54,(.mv (.t 1)),none⟩,⟨some 55,(.ixS 1 (.t 52) (.t 53)),none⟩,⟨none,(.store 1 (.t 55) (.t 54)),none⟩])
  (.seq (.ops [⟨some 56,(.mv (.t 9)),none⟩,⟨some 4,(.mv (.t 56)),none⟩,⟨some 5,(.mv (.k (B true))),none⟩])
  .ret)))))))
def c95T1 : ICode := b95T1
theorem w95T1 : W x Q c95T1 ks fr H ms = W x Q b95T1 ks fr H ms := rfl
/- live: [0,1,6,7] -/
abbrev b95L0 : ICode :=
  (.seq (.seq (.ops [⟨some 12,(.mv (.t 6)),none⟩,⟨some 13,(.mv (.t 7)),none⟩,⟨some 14,(.bin .lss (.t 12) (.t 13)),none⟩])
  (.cond (.t 14)
    .skip
    (.exit 0)))
  (.block 1 (.seq (.ops [⟨some 15,(.mv (.t 6)),none⟩,⟨some 16,(.mv (.t 7)),none⟩,⟨some 17,(.bin .add (.t 15) (.t 16)),none⟩,⟨some 18,(.bin .quo (.t 17) (.k (I 2))),none⟩,⟨some 8,(.mv (.t 18)),none⟩])
  (.seq (.ops [⟨some 19,(.mv (.t 0)),none⟩,⟨some 20,(.mv (.t 8)),none⟩,⟨some 21,(.ixS 1 (.t 19) (.t 20)),none⟩,⟨some 22,(.load false 1 (.t 21)),none⟩,⟨some 23,(.mv (.t 1)),none⟩,⟨some 24,(.call (.k (.fn (.func 83) [] [])) [(.t 22),(.t 23)]),none⟩])
  (.cond (.t 24)
    (.ops [⟨some 25,(.mv (.t 8)),none⟩,⟨some 26,(.bin .add (.t 25) (.k (I 1))),none⟩,⟨some 6,(.mv (.t 26)),none⟩])
    (.ops [⟨some 27,(.mv (.t 8)),none⟩,⟨some 7,(.mv (.t 27)),none⟩]))))))
def c95L0 : ICode := b95L0
theorem w95L0 : W x Q c95L0 ks fr H ms = W x Q b95L0 ks fr H ms := rfl
abbrev b95 : ICode :=
  (.seq (.ops [⟨some 4,(.mv (.k nilSl)),none⟩,⟨some 5,(.mv (.k (B false))),none⟩])
  (.seq (.ops [⟨some 10,(.mv (.t 0)),none⟩,⟨some 11,(.len (.t 10)),none⟩,⟨some 6,(.mv (.k (I 0))),none⟩,⟨some 7,(.mv (.t 11)),none⟩])
  (.seq (.block 0 (.loop c95L0))
  c95T1)))
def c95 : ICode := b95
theorem w95 : W x Q c95 ks fr H ms = W x Q b95 ks fr H ms := rfl
def r95 : List IRes := [(.tmp 4),(.tmp 5)]
theorem t95 : Try.f95.body.bind (trCode Try.prog Try.f95.ntmps) = some (strip c95) := by kernel_rfl
theorem q95 : trRes Try.prog Try.f95.results.toList = some r95 := by kernel_rfl
theorem fn95 : Try.prog.funcs[95]? = some Try.f95 := by kernel_rfl
theorem nn95 : (Try.f95.name == "runtime.NumGoroutine") = false := by kernel_rfl
theorem nt95 : Try.f95.ntmps = 57 := by kernel_rfl
abbrev b131 : ICode :=
  (.seq (.ops [⟨some 2,(.mv (.k (B false))),none⟩])
  (.seq (.ops [⟨some 3,(.mv (.t 0)),none⟩,⟨some 4,(.call (.k (.fn (.func 24) [] [])) [(.t 3),(.k (I 0)),(.k (I 0))]),none⟩,⟨some 2,(.mv (.t 4)),none⟩])
  .ret))
def c131 : ICode := b131
theorem w131 : W x Q c131 ks fr H ms = W x Q b131 ks fr H ms := rfl
def r131 : List IRes := [(.tmp 2)]
theorem t131 : Try.f131.body.bind (trCode Try.prog Try.f131.ntmps) = some (strip c131) := by kernel_rfl
theorem q131 : trRes Try.prog Try.f131.results.toList = some r131 := by kernel_rfl
theorem fn131 : Try.prog.funcs[131]? = some Try.f131 := by kernel_rfl
theorem nn131 : (Try.f131.name == "runtime.NumGoroutine") = false := by kernel_rfl
theorem nt131 : Try.f131.ntmps = 5 := by kernel_rfl
end Go.Proofs.Ytipfjfmdjmaflaa
