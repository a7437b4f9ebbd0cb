/- The code of some functions of the program,cleaned: printed by a program of mine,checked here. -/
import Derived.Test.YtlonaefihjdkpaaProg
import Derived.Test.YtlonaefihjdkpaaAS
import Derived.Test.YtlonaefihjdkpaaWA
import Derived.KernelRfl
namespace Go.Proofs.Ytlonaefihjdkpaa
open Go.Abs AVal
variable {x : Cx} {Q : QT} {ks : List Kont} {fr : Fr} {H : AHeap} {ms : List Nat}
abbrev b5T11 : ICode :=
  (.keep [0,1,7,11,12] (.seq (.ops [⟨some 120,(.mv (.t 7)),none⟩,⟨some 121,(.mv (.t 0)),none⟩,⟨some 122,(.bin .shl (.k (I 1)) (.t 121)),none⟩,⟨some 123,(.bin .sub (.t 122) (.k (I 1))),none⟩,⟨some 124,(.mv (.t 1)),none⟩,⟨some 125,(.call (.k (.fn (.func 16) [] [])) [(.t 120),(.t 123),(.t 124)]),none⟩,⟨some 119,(.mv (.t 125)),none⟩,⟨some 126,(.ext (.t 119) 0),none⟩,⟨some 127,(.ext (.t 119) 1),none⟩,⟨some 21,(.alloc [(I 0),(I 0)]),none⟩,⟨none,(.store 2 (.t 21) (.t 126)),none⟩,⟨some 10,(.mv (.t 127)),none⟩])
  (.seq (.ops [⟨some 128,(.mv (.t 10)),none⟩,⟨some 129,(.bin .eql (.t 128) (.k (I 0))),none⟩,⟨some 130,(.mv (.t 129)),none⟩,⟨some 131,(.fldA 1 (.t 21)),some (130,true)⟩,⟨some 132,(.load false 1 (.t 131)),some (130,true)⟩,⟨some 133,(.bin .geq (.t 132) (.k (I 1))),some (130,true)⟩,⟨some 134,(.pick (.t 130) (.t 133) (.k (B false))),none⟩,⟨some 135,(.mv (.t 134)),none⟩,⟨some 136,(.fldA 1 (.t 21)),some (135,true)⟩,⟨some 137,(.load false 1 (.t 136)),some (135,true)⟩,⟨some 138,(.mv (.t 12)),some (135,true)⟩,⟨some 139,(.bin .leq (.t 137) (.t 138)),some (135,true)⟩,⟨some 140,(.pick (.t 135) (.t 139) (.k (B false))),none⟩,⟨some 141,(.mv (.t 140)),none⟩,⟨some 142,(.fldA 0 (.t 21)),some (141,true)⟩,⟨some 143,(.load false 1 (.t 142)),some (141,true)⟩,⟨some 144,(.bin .geq (.t 143) (.k (I 0))),some (141,true)⟩,⟨some 145,(.pick (.t 141) (.t 144) (.k (B false))),none⟩,⟨some 146,(.mv (.t 145)),none⟩,⟨some 147,(.fldA 0 (.t 21)),some (146,true)⟩,⟨some 148,(.load false 1 (.t 147)),some (146,true)⟩,⟨some 149,(.fldA 1 (.t 21)),some (146,true)⟩,⟨some 150,(.load false 1 (.t 149)),some (146,true)⟩,⟨some 151,(.bin .leq (.t 148) (.t 150)),some (146,true)⟩,⟨some 152,(.pick (.t 146) (.t 151) (.k (B false))),none⟩,⟨some 153,(.mv (.t 152)),none⟩,⟨some 154,(.fldA 0 (.t 21)),some (153,true)⟩,⟨some 155,(.load false 1 (.t 154)),some (153,true)⟩,⟨some 156,(.mv (.t 12)),some (153,true)⟩,⟨some 157,(.bin .mul (.t 155) (.t 156)),some (153,true)⟩,⟨some 158,(.mv (.t 11)),some (153,true)⟩,⟨some 159,(.fldA 1 (.t 21)),some (153,true)⟩,⟨some 160,(.load false 1 (.t 159)),some (153,true)⟩,⟨some 161,(.bin .mul (.t 158) (.t 160)),some (153,true)⟩,⟨some 162,(.bin .eql (.t 157) (.t 161)),some (153,true)⟩,⟨some 163,(.pick (.t 153) (.t 162) (.k (B false))),none⟩,⟨some 164,(.mv (.t 163)),none⟩,⟨some 165,(.call (.k (.fn (.func 17) [] [])) []),some (164,true)⟩,⟨some 166,(.pick (.t 164) (.t 165) (.k (B false))),none⟩,⟨some 4,(.mv (.t 166)),none⟩])
  .ret)))
def c5T11 : ICode := b5T11
theorem w5T11 : W x Q c5T11 ks fr H ms = W x Q b5T11 ks fr H ms := rfl
abbrev b5T10 : ICode :=
  (.keep [0,1,7,11,12,68,69,70] (.ops [⟨some 118,(.bin .add (.t 70) (.k (I 1))),none⟩,⟨some 70,(.mv (.t 118)),none⟩]))
def c5T10 : ICode := b5T10
theorem w5T10 : W x Q c5T10 ks fr H ms = W x Q b5T10 ks fr H ms := rfl
abbrev b5T9 : ICode :=
  (.keep [0,1,7,11,12,15,17,68,69,70] (.seq (.ops [⟨some 114,(.mv (.t 17)),none⟩])
  (.cond (.t 114)
    (.ops [⟨some 115,(.mv (.t 11)),none⟩,⟨some 116,(.mv (.t 15)),none⟩,⟨some 117,(.bin .add (.t 115) (.t 116)),none⟩,⟨some 11,(.mv (.t 117)),none⟩])
    .skip)))
def c5T9 : ICode := b5T9
theorem w5T9 : W x Q c5T9 ks fr H ms = W x Q b5T9 ks fr H ms := rfl
abbrev b5T8 : ICode :=
  (.keep [0,1,7,11,12,15,16,17,68,69,70,79,80,81] (.ops [⟨some 113,(.bin .add (.t 81) (.k (I 1))),none⟩,⟨some 81,(.mv (.t 113)),none⟩]))
def c5T8 : ICode := b5T8
theorem w5T8 : W x Q c5T8 ks fr H ms = W x Q b5T8 ks fr H ms := rfl
abbrev b5T7 : ICode :=
  (.keep [0,1,7,11,12,15,16,17,19,68,69,70,79,80,81] (.seq (.ops [⟨some 105,(.mv (.t 16)),none⟩,⟨some 106,(.mv (.t 19)),none⟩,⟨some 107,(.bin .sub (.t 105) (.t 106)),none⟩,⟨some 16,(.mv (.t 107)),none⟩])
  (.ops [⟨some 108,(.mv (.t 17)),none⟩,⟨some 109,(.mv (.t 108)),none⟩,⟨some 110,(.mv (.t 19)),some (109,true)⟩,⟨some 111,(.bin .gtr (.t 110) (.k (I 0))),some (109,true)⟩,⟨some 112,(.pick (.t 109) (.t 111) (.k (B false))),none⟩,⟨some 17,(.mv (.t 112)),none⟩])))
def c5T7 : ICode := b5T7
theorem w5T7 : W x Q c5T7 ks fr H ms = W x Q b5T7 ks fr H ms := rfl
/- live: [0,1,7,11,12,15,16,17,19,68,69,70,79,80,81,92,93] -/
abbrev b5L6 : ICode :=
  (.seq (.ops [⟨some 94,(.bin .lss (.t 93) (.t 92)),none⟩])
  (.seq (.cond (.t 94)
    .skip
    (.exit 8))
  (.seq (.block 9 (.seq (.ops [⟨some 95,(.mv (.t 93)),none⟩,⟨some 20,(.mv (.t 95)),none⟩])
  (.ops [⟨some 96,(.mv (.t 15)),none⟩,⟨some 97,(.mv (.t 16)),none⟩,⟨some 98,(.mv (.t 20)),none⟩,⟨some 99,(.bin .sub (.t 97) (.t 98)),none⟩,⟨some 100,(.bin .mul (.t 96) (.t 99)),none⟩,⟨some 101,(.mv (.t 20)),none⟩,⟨some 102,(.bin .add (.t 101) (.k (I 1))),none⟩,⟨some 103,(.bin .quo (.t 100) (.t 102)),none⟩,⟨some 15,(.mv (.t 103)),none⟩])))
  (.ops [⟨some 104,(.bin .add (.t 93) (.k (I 1))),none⟩,⟨some 93,(.mv (.t 104)),none⟩]))))
def c5L6 : ICode := b5L6
theorem w5L6 : W x Q c5L6 ks fr H ms = W x Q b5L6 ks fr H ms := rfl
/- live: [0,1,7,11,12,15,16,17,68,69,70,79,80,81] -/
abbrev b5L5 : ICode :=
  (.seq (.ops [⟨some 82,(.bin .lss (.t 81) (.t 80)),none⟩])
  (.seq (.cond (.t 82)
    .skip
    (.exit 6))
  (.seq (.block 7 (.seq (.ops [⟨some 83,(.ixS 1 (.t 79) (.t 81)),none⟩,⟨some 84,(.load false 1 (.t 83)),none⟩,⟨some 19,(.mv (.t 84)),none⟩])
  (.seq (.seq (.ops [⟨some 85,(.mv (.t 19)),none⟩,⟨some 86,(.bin .lss (.t 85) (.k (I 0))),none⟩,⟨some 87,(.mv (.t 86)),none⟩,⟨some 88,(.mv (.t 19)),some (87,false)⟩,⟨some 89,(.mv (.t 16)),some (87,false)⟩,⟨some 90,(.bin .gtr (.t 88) (.t 89)),some (87,false)⟩,⟨some 91,(.pick (.t 87) (.k (B true)) (.t 90)),none⟩])
  (.cond (.t 91)
    (.seq (.ops [⟨some 4,(.mv (.k (B false))),none⟩])
    .ret)
    .skip))
  (.seq (.seq (.ops [⟨some 92,(.mv (.t 19)),none⟩,⟨some 93,(.mv (.k (I 0))),none⟩])
  (.block 8 (.loop c5L6)))
  c5T7))))
  c5T8)))
def c5L5 : ICode := b5L5
theorem w5L5 : W x Q c5L5 ks fr H ms = W x Q b5L5 ks fr H ms := rfl
/- live: [0,1,7,11,12,68,69,70] -/
abbrev b5L4 : ICode :=
  (.seq (.ops [⟨some 71,(.bin .lss (.t 70) (.t 69)),none⟩])
  (.seq (.cond (.t 71)
    .skip
    (.exit 4))
  (.seq (.block 5 (.seq (.ops [⟨some 72,(.ixS 1 (.t 68) (.t 70)),none⟩,⟨some 73,(.load false 1 (.t 72)),none⟩,⟨some 14,(.mv (.t 73)),none⟩])
  (.seq (.ops [⟨some 74,(.mv (.t 1)),none⟩,⟨some 15,(.mv (.k (I 1))),none⟩,⟨some 16,(.mv (.t 74)),none⟩,⟨some 17,(.mv (.k (B true))),none⟩])
  (.seq (.seq (.ops [⟨some 75,(.mv (.t 14)),none⟩,⟨some 76,(.len (.t 75)),none⟩,⟨some 77,(.mv (.t 0)),none⟩,⟨some 78,(.bin .neq (.t 76) (.t 77)),none⟩])
  (.cond (.t 78)
    (.seq (.ops [⟨some 4,(.mv (.k (B false))),none⟩])
    .ret)
    .skip))
  (.seq (.seq (.ops [⟨some 79,(.mv (.t 14)),none⟩,⟨some 80,(.len (.t 79)),none⟩,⟨some 81,(.mv (.k (I 0))),none⟩])
  (.block 6 (.loop c5L5)))
  c5T9)))))
  c5T10)))
def c5L4 : ICode := b5L4
theorem w5L4 : W x Q c5L4 ks fr H ms = W x Q b5L4 ks fr H ms := rfl
abbrev b5T3 : ICode :=
  (.keep [0,1,7,9,11,12] (.seq (.seq (.ops [⟨some 68,(.mv (.t 9)),none⟩,⟨some 69,(.len (.t 68)),none⟩,⟨some 70,(.mv (.k (I 0))),none⟩])
  (.block 4 (.loop c5L4)))
  c5T11))
def c5T3 : ICode := b5T3
theorem w5T3 : W x Q c5T3 ks fr H ms = W x Q b5T3 ks fr H ms := rfl
/- live: [0,1,7,9,11,12,61,62] -/
abbrev b5L2 : ICode :=
  (.seq (.ops [⟨some 63,(.bin .lss (.t 62) (.t 61)),none⟩])
  (.seq (.cond (.t 63)
    .skip
    (.exit 2))
  (.seq (.block 3 (.ops [⟨some 64,(.mv (.t 12)),none⟩,⟨some 65,(.mv (.t 0)),none⟩,⟨some 66,(.bin .mul (.t 64) (.t 65)),none⟩,⟨some 12,(.mv (.t 66)),none⟩]))
  (.ops [⟨some 67,(.bin .add (.t 62) (.k (I 1))),none⟩,⟨some 62,(.mv (.t 67)),none⟩]))))
def c5L2 : ICode := b5L2
theorem w5L2 : W x Q c5L2 ks fr H ms = W x Q b5L2 ks fr H ms := rfl
abbrev b5T1 : ICode :=
  (.keep [0,1,5,6,7] (.seq (.ops [⟨some 49,(.mv (.t 6)),none⟩,⟨some 50,(.mv (.t 1)),none⟩,⟨some 51,(.ixS 1 (.t 49) (.k (I 0))),none⟩,⟨none,(.store 1 (.t 51) (.t 50)),none⟩])
  (.seq (.view (.keep [0,1,5,6,7] (.ops [⟨some 53,(.mv (.t 5)),none⟩,⟨some 54,(.bslice 1 1 [nilSl] [(0,1,(.t 53))]),none⟩,⟨some 55,(.mv (.t 6)),none⟩,⟨some 56,(.call (.k (.fn (.func 15) [] [])) [(.t 54),(.t 55)]),none⟩,⟨some 52,(.mv (.t 56)),none⟩,⟨some 57,(.ext (.t 52) 0),none⟩,⟨some 58,(.ext (.t 52) 1),none⟩,⟨some 9,(.mv (.t 57)),none⟩,⟨some 10,(.mv (.t 58)),none⟩])))
  (.seq (.seq (.ops [⟨some 59,(.mv (.t 10)),none⟩,⟨some 60,(.bin .neq (.t 59) (.k (I 0))),none⟩])
  (.cond (.t 60)
    (.seq (.ops [⟨some 4,(.mv (.k (B false))),none⟩])
    .ret)
    .skip))
  (.seq (.ops [⟨some 11,(.mv (.k (I 0))),none⟩,⟨some 12,(.mv (.k (I 1))),none⟩])
  (.seq (.seq (.ops [⟨some 61,(.mv (.t 1)),none⟩,⟨some 62,(.mv (.k (I 0))),none⟩])
  (.block 2 (.loop c5L2)))
  c5T3))))))
def c5T1 : ICode := b5T1
theorem w5T1 : W x Q c5T1 ks fr H ms = W x Q b5T1 ks fr H ms := rfl
/- live: [0,1,5,6,7,38,39] -/
abbrev b5L0 : ICode :=
  (.seq (.ops [⟨some 40,(.bin .lss (.t 39) (.t 38)),none⟩])
  (.seq (.cond (.t 40)
    .skip
    (.exit 0))
  (.seq (.block 1 (.seq (.ops [⟨some 41,(.mv (.t 39)),none⟩,⟨some 8,(.mv (.t 41)),none⟩])
  (.ops [⟨some 42,(.mv (.t 5)),none⟩,⟨some 43,(.mv (.t 8)),none⟩,⟨some 44,(.mv (.t 7)),none⟩,⟨some 45,(.mv (.t 8)),none⟩,⟨some 46,(.ixS 1 (.t 42) (.t 43)),none⟩,⟨none,(.store 1 (.t 46) (.k (I 1))),none⟩,⟨some 47,(.ixS 1 (.t 44) (.t 45)),none⟩,⟨none,(.store 1 (.t 47) (.k (I 1))),none⟩])))
  (.ops [⟨some 48,(.bin .add (.t 39) (.k (I 1))),none⟩,⟨some 39,(.mv (.t 48)),none⟩]))))
def c5L0 : ICode := b5L0
theorem w5L0 : W x Q c5L0 ks fr H ms = W x Q b5L0 ks fr H ms := rfl
abbrev b5 : ICode :=
  (.seq (.ops [⟨some 4,(.mv (.k (B false))),none⟩])
  (.seq (.ops [⟨some 22,(.mv (.t 0)),none⟩,⟨some 23,(.conv .u64 (.t 22)),none⟩,⟨some 24,(.bin .rem (.t 23) (.k (.val (.int .u64 4)))),none⟩,⟨some 25,(.conv .i64 (.t 24)),none⟩,⟨some 26,(.bin .add (.k (I 1)) (.t 25)),none⟩,⟨some 27,(.mv (.t 1)),none⟩,⟨some 28,(.conv .u64 (.t 27)),none⟩,⟨some 29,(.bin .rem (.t 28) (.k (.val (.int .u64 6)))),none⟩,⟨some 30,(.conv .i64 (.t 29)),none⟩,⟨some 31,(.bin .add (.k (I 1)) (.t 30)),none⟩,⟨some 0,(.mv (.t 26)),none⟩,⟨some 1,(.mv (.t 31)),none⟩])
  (.seq (.draw 3 [] (.early 1 ⟨some 32,(.mv (.t 0)),none⟩
    (.early 1 ⟨some 34,(.mv (.t 0)),none⟩
    (.early 1 ⟨some 36,(.mv (.t 0)),none⟩
    (.both (.step 0 1 ⟨some 33,(.mksl 1 8 [(I 0)] (.t 32) (.t 32)),none⟩
      (.early 1 ⟨some 5,(.mv (.t 33)),none⟩
      (.both (.step 1 1 ⟨some 35,(.mksl 1 8 [(I 0)] (.t 34) (.t 34)),none⟩
        (.early 1 ⟨some 6,(.mv (.t 35)),none⟩
        (.step 2 1 ⟨some 37,(.mksl 1 8 [(I 0)] (.t 36) (.t 36)),none⟩
        (.early 0 ⟨some 7,(.mv (.t 37)),none⟩
        .done))))
      (.step 2 1 ⟨some 37,(.mksl 1 8 [(I 0)] (.t 36) (.t 36)),none⟩
        (.step 1 1 ⟨some 35,(.mksl 1 8 [(I 0)] (.t 34) (.t 34)),none⟩
        (.early 1 ⟨some 6,(.mv (.t 35)),none⟩
        (.early 0 ⟨some 7,(.mv (.t 37)),none⟩
        .done)))))))
    (.both (.step 1 1 ⟨some 35,(.mksl 1 8 [(I 0)] (.t 34) (.t 34)),none⟩
        (.both (.step 0 1 ⟨some 33,(.mksl 1 8 [(I 0)] (.t 32) (.t 32)),none⟩
          (.early 1 ⟨some 5,(.mv (.t 33)),none⟩
          (.early 1 ⟨some 6,(.mv (.t 35)),none⟩
          (.step 2 1 ⟨some 37,(.mksl 1 8 [(I 0)] (.t 36) (.t 36)),none⟩
          (.early 0 ⟨some 7,(.mv (.t 37)),none⟩
          .done)))))
        (.step 2 1 ⟨some 37,(.mksl 1 8 [(I 0)] (.t 36) (.t 36)),none⟩
          (.step 0 1 ⟨some 33,(.mksl 1 8 [(I 0)] (.t 32) (.t 32)),none⟩
          (.early 1 ⟨some 5,(.mv (.t 33)),none⟩
          (.early 1 ⟨some 6,(.mv (.t 35)),none⟩
          (.early 0 ⟨some 7,(.mv (.t 37)),none⟩
          .done)))))))
      (.step 2 1 ⟨some 37,(.mksl 1 8 [(I 0)] (.t 36) (.t 36)),none⟩
        (.both (.step 0 1 ⟨some 33,(.mksl 1 8 [(I 0)] (.t 32) (.t 32)),none⟩
          (.early 1 ⟨some 5,(.mv (.t 33)),none⟩
          (.step 1 1 ⟨some 35,(.mksl 1 8 [(I 0)] (.t 34) (.t 34)),none⟩
          (.early 1 ⟨some 6,(.mv (.t 35)),none⟩
          (.early 0 ⟨some 7,(.mv (.t 37)),none⟩
          .done)))))
        (.step 1 1 ⟨some 35,(.mksl 1 8 [(I 0)] (.t 34) (.t 34)),none⟩
          (.step 0 1 ⟨some 33,(.mksl 1 8 [(I 0)] (.t 32) (.t 32)),none⟩
          (.early 1 ⟨some 5,(.mv (.t 33)),none⟩
          (.early 1 ⟨some 6,(.mv (.t 35)),none⟩
          (.early 0 ⟨some 7,(.mv (.t 37)),none⟩
          .done)))))))))))))
  (.keep [0,1,5,6,7] (.seq (.seq (.ops [⟨some 38,(.mv (.t 0)),none⟩,⟨some 39,(.mv (.k (I 0))),none⟩])
  (.block 0 (.loop c5L0)))
  c5T1)))))
def c5 : ICode := b5
theorem w5 : W x Q c5 ks fr H ms = W x Q b5 ks fr H ms := rfl
def r5 : List IRes := [(.tmp 4)]
theorem t5 : Try.f5.body.bind (trCode Try.prog Try.f5.ntmps) = some (strip c5) := by kernel_rfl
theorem q5 : trRes Try.prog Try.f5.results.toList = some r5 := by kernel_rfl
theorem fn5 : Try.prog.funcs[5]? = some Try.f5 := by kernel_rfl
theorem nn5 : (Try.f5.name == "runtime.NumGoroutine") = false := by kernel_rfl
theorem nt5 : Try.f5.ntmps = 167 := by kernel_rfl
end Go.Proofs.Ytlonaefihjdkpaa
