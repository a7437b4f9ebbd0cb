/- The code of some functions of the program, cleaned: printed by a program of mine, checked here. -/
import Derived.Test.YtipfjfmdjmaflaaProg
import Derived.Test.YtipfjfmdjmaflaaAS
import Derived.KernelRfl
import Derived.Test.YtipfjfmdjmaflaaKA
namespace Go.Proofs.Ytipfjfmdjmaflaa
open Go.Abs AVal
variable {x : Cx} {Q : QT} {ks : List Kont} {fr : Fr} {H : AHeap} {ms : List Nat}
abbrev b14T5 : ICode :=
  (.view (.keep [0, 3, 14] (.seq (.ops [⟨(some 71), (.mv (.t 0)), none⟩,
    ⟨(some 72), (.call (.k (.fn (.func 19) [] [])) [(.t 71)]), none⟩,
    ⟨(some 73), (.bslice 1 1 [nilSl] [(0, 1, (.t 72))]), none⟩,
    ⟨(some 74), (.call (.k (.fn (.func 39) [] [])) [(.t 73)]), none⟩,
    ⟨(some 70), (.mv (.t 74)), none⟩,
    ⟨(some 75), (.ext (.t 70) 0), none⟩,
    ⟨(some 76), (.ext (.t 70) 1), none⟩,
    ⟨(some 15), (.mv (.t 75)), none⟩,
    ⟨(some 16), (.mv (.t 76)), none⟩])
  (.seq (.ops [⟨(some 78), (.mv (.t 14)), none⟩,
    ⟨(some 79), (.call (.k (.fn (.func 18) [] [])) [(.t 78)]), none⟩,
    ⟨(some 80), (.call (.k (.fn (.func 39) [] [])) [(.t 79)]), none⟩,
    ⟨(some 77), (.mv (.t 80)), none⟩,
    ⟨(some 81), (.ext (.t 77) 0), none⟩,
    ⟨(some 82), (.ext (.t 77) 1), none⟩,
    ⟨(some 17), (.mv (.t 81)), none⟩,
    ⟨(some 18), (.mv (.t 82)), none⟩])
  (.seq (.ops [⟨(some 84), (.mv (.t 0)), none⟩,
    ⟨(some 85), (.call (.k (.fn (.func 19) [] [])) [(.t 84)]), none⟩,
    ⟨(some 86), (.bslice 1 1 [nilSl] [(0, 1, (.t 85))]), none⟩,
    ⟨(some 87), (.mv (.t 3)), none⟩,
    ⟨(some 88), (.call (.k (.fn (.func 19) [] [])) [(.t 87)]), none⟩,
    ⟨(some 89), (.call (.k (.fn (.func 58) [] [])) [(.t 86), (.t 88)]), none⟩,
    ⟨(some 83), (.mv (.t 89)), none⟩,
    ⟨(some 90), (.ext (.t 83) 0), none⟩,
    ⟨(some 91), (.ext (.t 83) 1), none⟩,
    ⟨(some 19), (.mv (.t 90)), none⟩,
    ⟨(some 20), (.mv (.t 91)), none⟩])
  (.seq (.ops [⟨(some 93), (.mv (.t 14)), none⟩,
    ⟨(some 94), (.mv (.t 3)), none⟩,
    ⟨(some 95), (.call (.k (.fn (.func 19) [] [])) [(.t 94)]), none⟩,
    ⟨(some 96), (.call (.k (.fn (.func 58) [] [])) [(.t 93), (.t 95)]), none⟩,
    ⟨(some 92), (.mv (.t 96)), none⟩,
    ⟨(some 97), (.ext (.t 92) 0), none⟩,
    ⟨(some 98), (.ext (.t 92) 1), none⟩,
    ⟨(some 21), (.mv (.t 97)), none⟩,
    ⟨(some 22), (.mv (.t 98)), none⟩])
  (.seq (.ops [⟨(some 99), (.mv (.t 16)), none⟩,
    ⟨(some 100), (.bin .eql (.t 99) (.k (I 0))), none⟩,
    ⟨(some 101), (.mv (.t 100)), none⟩,
    ⟨(some 102), (.mv (.t 18)), (some (101, true))⟩,
    ⟨(some 103), (.bin .eql (.t 102) (.k (I 0))), (some (101, true))⟩,
    ⟨(some 104), (.pick (.t 101) (.t 103) (.k (B false))), none⟩,
    ⟨(some 105), (.mv (.t 104)), none⟩,
    ⟨(some 106), (.mv (.t 20)), (some (105, true))⟩,
    ⟨(some 107), (.mv (.t 22)), (some (105, true))⟩,
    ⟨(some 108), (.bin .eql (.t 106) (.t 107)), (some (105, true))⟩,
    ⟨(some 109), (.pick (.t 105) (.t 108) (.k (B false))), none⟩,
    ⟨(some 110), (.mv (.t 109)), none⟩,
    ⟨(some 111), (.mv (.t 15)), (some (110, true))⟩,
    ⟨(some 112), (.mv (.t 17)), (some (110, true))⟩,
    ⟨(some 113), (.call (.k (.fn (.func 48) [] [])) [(.t 111), (.t 112)]), (some (110, true))⟩,
    ⟨(some 114), (.pick (.t 110) (.t 113) (.k (B false))), none⟩,
    ⟨(some 115), (.mv (.t 114)), none⟩,
    ⟨(some 116), (.mv (.t 19)), (some (115, true))⟩,
    ⟨(some 117), (.mv (.t 21)), (some (115, true))⟩,
    ⟨(some 118), (.bin .eql (.t 116) (.t 117)), (some (115, true))⟩,
    ⟨(some 119), (.pick (.t 115) (.t 118) (.k (B false))), none⟩,
    ⟨(some 120), (.mv (.t 119)), none⟩,
    ⟨(some 121), (.call (.k (.fn (.func 25) [] [])) []), (some (120, true))⟩,
    ⟨(some 122), (.pick (.t 120) (.t 121) (.k (B false))), none⟩,
    ⟨(some 8), (.mv (.t 122)), none⟩])
  .ret)))))))
def c14T5 : ICode := b14T5
theorem w14T5 : W x Q c14T5 ks fr H ms = W x Q b14T5 ks fr H ms := rfl
abbrev b14T4 : ICode :=
  (.keep [0, 2, 3, 11] (.seq (.ops [⟨(some 61), (.mv (.t 0)), none⟩,
    ⟨(some 62), (.call (.k (.fn (.func 19) [] [])) [(.t 61)]), none⟩,
    ⟨(some 63), (.mv (.t 11)), none⟩,
    ⟨(some 64), (.bslice 1 2 [nilSl] [(0, 1, (.t 62)), (1, 1, (.t 63))]), none⟩,
    ⟨(some 14), (.mv (.t 64)), none⟩])
  (.seq (.seq (.ops [⟨(some 65), (.mv (.t 2)), none⟩])
  (.cond (.t 65)
    (.ops [⟨(some 66), (.mv (.t 11)), none⟩,
      ⟨(some 67), (.mv (.t 0)), none⟩,
      ⟨(some 68), (.call (.k (.fn (.func 19) [] [])) [(.t 67)]), none⟩,
      ⟨(some 69), (.bslice 1 2 [nilSl] [(0, 1, (.t 66)), (1, 1, (.t 68))]), none⟩,
      ⟨(some 14), (.mv (.t 69)), none⟩])
    .skip))
  c14T5)))
def c14T4 : ICode := b14T4
theorem w14T4 : W x Q c14T4 ks fr H ms = W x Q b14T4 ks fr H ms := rfl
abbrev b14T3 : ICode :=
  (.view (.keep [0, 2, 3, 11] (.seq (.seq (.ops [⟨(some 57), (.mv (.t 11)), none⟩,
    ⟨(some 58), (.call (.k (.fn (.func 24) [] [])) [(.t 57), (.k (I (-2))), (.k (I 2))]), none⟩,
    ⟨(some 59), (.un .not (.t 58)), none⟩])
  (.cond (.t 59)
    (.seq (.ops [⟨(some 60), (.call (.k (.fn (.func 25) [] [])) []), none⟩,
      ⟨(some 8), (.mv (.t 60)), none⟩])
    .ret)
    .skip))
  c14T4)))
def c14T3 : ICode := b14T3
theorem w14T3 : W x Q c14T3 ks fr H ms = W x Q b14T3 ks fr H ms := rfl
abbrev b14T2 : ICode :=
  (.keep [0, 1, 2, 3, 11, 44, 45, 46] (.seq (.block 1 (.seq (.ops [⟨(some 48), (.ixS 1 (.t 44) (.t 46)), none⟩,
    ⟨(some 49), (.load false 1 (.t 48)), none⟩,
    ⟨(some 13), (.mv (.t 49)), none⟩])
  (.ops [⟨(some 50), (.mv (.t 11)), none⟩,
    ⟨(some 51), (.mv (.t 13)), none⟩,
    ⟨(some 52), (.mv (.t 1)), none⟩,
    ⟨(some 53), (.bin .mul (.t 51) (.t 52)), none⟩,
    ⟨(some 54), (.bslice 1 1 [(I 0)] [(0, 1, (.t 53))]), none⟩,
    ⟨(some 55), (.append 1 8 (.t 50) (.t 54)), none⟩,
    ⟨(some 11), (.mv (.t 55)), none⟩])))
  (.ops [⟨(some 56), (.bin .add (.t 46) (.k (I 1))), none⟩,
    ⟨(some 46), (.mv (.t 56)), none⟩])))
def c14T2 : ICode := b14T2
theorem w14T2 : W x Q c14T2 ks fr H ms = W x Q b14T2 ks fr H ms := rfl
/- live: [0, 1, 2, 3, 11, 44, 45, 46] -/
abbrev b14L1 : ICode :=
  (.seq (.ops [⟨(some 47), (.bin .lss (.t 46) (.t 45)), none⟩])
  (.seq (.cond (.t 47)
    .skip
    (.exit 0))
  c14T2))
def c14L1 : ICode := b14L1
theorem w14L1 : W x Q c14L1 ks fr H ms = W x Q b14L1 ks fr H ms := rfl
abbrev b14T0 : ICode :=
  (.keep [0, 1, 2, 3] (.seq (.ops [⟨(some 39), (.mv (.t 1)), none⟩,
    ⟨(some 40), (.conv .u64 (.t 39)), none⟩,
    ⟨(some 41), (.bin .rem (.t 40) (.k (.val (.int .u64 5)))), none⟩,
    ⟨(some 42), (.conv .i64 (.t 41)), none⟩,
    ⟨(some 43), (.bin .sub (.t 42) (.k (I 2))), none⟩,
    ⟨(some 1), (.mv (.t 43)), none⟩])
  (.seq (.ops [⟨(some 11), (.mv (.k nilSl)), none⟩])
  (.seq (.seq (.ops [⟨(some 44), (.mv (.t 0)), none⟩,
    ⟨(some 45), (.len (.t 44)), none⟩,
    ⟨(some 46), (.mv (.k (I 0))), none⟩])
  (.block 0 (.loop c14L1)))
  c14T3))))
def c14T0 : ICode := b14T0
theorem w14T0 : W x Q c14T0 ks fr H ms = W x Q b14T0 ks fr H ms := rfl
abbrev b14 : ICode :=
  (.seq (.ops [⟨(some 8), (.mv (.k (B false))), none⟩])
  (.seq (.seq (.ops [⟨(some 23), (.mv (.t 0)), none⟩,
    ⟨(some 24), (.bslice 1 1 [nilSl] [(0, 1, (.t 23))]), none⟩,
    ⟨(some 25), (.call (.k (.fn (.func 40) [] [])) [(.t 24)]), none⟩,
    ⟨(some 26), (.un .not (.t 25)), none⟩])
  (.cond (.t 26)
    (.seq (.ops [⟨(some 28), (.mv (.t 0)), none⟩,
      ⟨(some 29), (.call (.k (.fn (.func 19) [] [])) [(.t 28)]), none⟩,
      ⟨(some 30), (.bslice 1 1 [nilSl] [(0, 1, (.t 29))]), none⟩,
      ⟨(some 31), (.call (.k (.fn (.func 39) [] [])) [(.t 30)]), none⟩,
      ⟨(some 27), (.mv (.t 31)), none⟩,
      ⟨(some 32), (.ext (.t 27) 0), none⟩,
      ⟨(some 33), (.ext (.t 27) 1), none⟩,
      ⟨(some 9), (.mv (.t 32)), none⟩,
      ⟨(some 10), (.mv (.t 33)), none⟩])
    (.seq (.ops [⟨(some 34), (.mv (.t 10)), none⟩,
      ⟨(some 35), (.bin .eql (.t 34) (.k (I 2))), none⟩,
      ⟨(some 36), (.mv (.t 35)), none⟩,
      ⟨(some 37), (.call (.k (.fn (.func 25) [] [])) []), (some (36, true))⟩,
      ⟨(some 38), (.pick (.t 36) (.t 37) (.k (B false))), none⟩,
      ⟨(some 8), (.mv (.t 38)), none⟩])
    .ret))
    .skip))
  c14T0))
def c14 : ICode := b14
theorem w14 : W x Q c14 ks fr H ms = W x Q b14 ks fr H ms := rfl
def r14 : List IRes := [(.tmp 8)]
theorem t14 : Try.f14.body.bind (trCode Try.prog Try.f14.ntmps) = some (strip c14) := by kernel_rfl
theorem q14 : trRes Try.prog Try.f14.results.toList = some r14 := by kernel_rfl
theorem fn14 : Try.prog.funcs[14]? = some Try.f14 := by kernel_rfl
theorem nn14 : (Try.f14.name == "runtime.NumGoroutine") = false := by kernel_rfl
theorem nt14 : Try.f14.ntmps = 123 := by kernel_rfl
abbrev b15T12 : ICode :=
  (.keep [7, 13] (.seq (.ops [⟨(some 157), (.mv (.t 13)), none⟩,
    ⟨(some 158), (.mv (.t 7)), none⟩,
    ⟨(some 159), (.bin .gtr (.t 158) (.k (I 1))), none⟩,
    ⟨(some 160), (.eqb false (.t 157) (.t 159)), none⟩,
    ⟨(some 161), (.mv (.t 160)), none⟩,
    ⟨(some 162), (.call (.k (.fn (.func 25) [] [])) []), (some (161, true))⟩,
    ⟨(some 163), (.pick (.t 161) (.t 162) (.k (B false))), none⟩,
    ⟨(some 4), (.mv (.t 163)), none⟩])
  .ret))
def c15T12 : ICode := b15T12
theorem w15T12 : W x Q c15T12 ks fr H ms = W x Q b15T12 ks fr H ms := rfl
abbrev b15T11 : ICode :=
  (.keep [3, 7, 13, 123, 124, 125] (.ops [⟨(some 156), (.bin .add (.t 125) (.k (I 1))), none⟩,
    ⟨(some 125), (.mv (.t 156)), none⟩]))
def c15T11 : ICode := b15T11
theorem w15T11 : W x Q c15T11 ks fr H ms = W x Q b15T11 ks fr H ms := rfl
abbrev b15T10 : ICode :=
  (.keep [3, 7, 13, 16, 123, 124, 125] (.ops [⟨(some 152), (.mv (.t 13)), none⟩,
    ⟨(some 153), (.mv (.t 152)), none⟩,
    ⟨(some 154), (.mv (.t 16)), (some (153, false))⟩,
    ⟨(some 155), (.pick (.t 153) (.k (B true)) (.t 154)), none⟩,
    ⟨(some 13), (.mv (.t 155)), none⟩]))
def c15T10 : ICode := b15T10
theorem w15T10 : W x Q c15T10 ks fr H ms = W x Q b15T10 ks fr H ms := rfl
abbrev b15T9 : ICode :=
  (.keep [3, 7, 13, 16, 123, 124, 125, 134, 135, 136] (.seq (.block 5 (.seq (.ops [⟨(some 138), (.mv (.t 136)), none⟩,
    ⟨(some 139), (.ixS 1 (.t 134) (.t 136)), none⟩,
    ⟨(some 140), (.load false 1 (.t 139)), none⟩,
    ⟨(some 17), (.mv (.t 138)), none⟩,
    ⟨(some 18), (.mv (.t 140)), none⟩])
  (.ops [⟨(some 141), (.mv (.t 16)), none⟩,
    ⟨(some 142), (.mv (.t 141)), none⟩,
    ⟨(some 143), (.load false 1 (.t 3)), (some (142, true))⟩,
    ⟨(some 144), (.mv (.t 17)), (some (142, true))⟩,
    ⟨(some 145), (.ixS 1 (.t 143) (.t 144)), (some (142, true))⟩,
    ⟨(some 146), (.load false 1 (.t 145)), (some (142, true))⟩,
    ⟨(some 147), (.mv (.t 18)), (some (142, true))⟩,
    ⟨(some 148), (.bin .add (.t 146) (.t 147)), (some (142, true))⟩,
    ⟨(some 149), (.bin .geq (.t 148) (.k (I 0))), (some (142, true))⟩,
    ⟨(some 150), (.pick (.t 142) (.t 149) (.k (B false))), none⟩,
    ⟨(some 16), (.mv (.t 150)), none⟩])))
  (.ops [⟨(some 151), (.bin .add (.t 136) (.k (I 1))), none⟩,
    ⟨(some 136), (.mv (.t 151)), none⟩])))
def c15T9 : ICode := b15T9
theorem w15T9 : W x Q c15T9 ks fr H ms = W x Q b15T9 ks fr H ms := rfl
/- live: [3, 7, 13, 16, 123, 124, 125, 134, 135, 136] -/
abbrev b15L8 : ICode :=
  (.seq (.ops [⟨(some 137), (.bin .lss (.t 136) (.t 135)), none⟩])
  (.seq (.cond (.t 137)
    .skip
    (.exit 4))
  c15T9))
def c15L8 : ICode := b15L8
theorem w15L8 : W x Q c15L8 ks fr H ms = W x Q b15L8 ks fr H ms := rfl
abbrev b15T7 : ICode :=
  (.keep [3, 7, 13, 123, 124, 125] (.seq (.block 3 (.seq (.ops [⟨(some 127), (.ixS 1 (.t 123) (.t 125)), none⟩,
    ⟨(some 128), (.load false 1 (.t 127)), none⟩,
    ⟨(some 15), (.mv (.t 128)), none⟩])
  (.seq (.ops [⟨(some 129), (.mv (.t 15)), none⟩,
    ⟨(some 130), (.len (.t 129)), none⟩,
    ⟨(some 131), (.load false 1 (.t 3)), none⟩,
    ⟨(some 132), (.len (.t 131)), none⟩,
    ⟨(some 133), (.bin .eql (.t 130) (.t 132)), none⟩,
    ⟨(some 16), (.mv (.t 133)), none⟩])
  (.seq (.seq (.ops [⟨(some 134), (.mv (.t 15)), none⟩,
    ⟨(some 135), (.len (.t 134)), none⟩,
    ⟨(some 136), (.mv (.k (I 0))), none⟩])
  (.block 4 (.loop c15L8)))
  c15T10))))
  c15T11))
def c15T7 : ICode := b15T7
theorem w15T7 : W x Q c15T7 ks fr H ms = W x Q b15T7 ks fr H ms := rfl
/- live: [3, 7, 13, 123, 124, 125] -/
abbrev b15L6 : ICode :=
  (.seq (.ops [⟨(some 126), (.bin .lss (.t 125) (.t 124)), none⟩])
  (.seq (.cond (.t 126)
    .skip
    (.exit 2))
  c15T7))
def c15L6 : ICode := b15L6
theorem w15L6 : W x Q c15L6 ks fr H ms = W x Q b15L6 ks fr H ms := rfl
abbrev b15T5 : ICode :=
  (.keep [3, 7, 9] (.seq (.ops [⟨(some 13), (.mv (.k (B false))), none⟩])
  (.seq (.seq (.ops [⟨(some 123), (.mv (.t 9)), none⟩,
    ⟨(some 124), (.len (.t 123)), none⟩,
    ⟨(some 125), (.mv (.k (I 0))), none⟩])
  (.block 2 (.loop c15L6)))
  c15T12)))
def c15T5 : ICode := b15T5
theorem w15T5 : W x Q c15T5 ks fr H ms = W x Q b15T5 ks fr H ms := rfl
abbrev b15T4 : ICode :=
  (.keep [0, 3, 5, 7, 9, 81, 82, 83] (.ops [⟨(some 122), (.bin .add (.t 83) (.k (I 1))), none⟩,
    ⟨(some 83), (.mv (.t 122)), none⟩]))
def c15T4 : ICode := b15T4
theorem w15T4 : W x Q c15T4 ks fr H ms = W x Q b15T4 ks fr H ms := rfl
abbrev b15T3 : ICode :=
  (.keep [0, 3, 5, 7, 9, 81, 82, 83] (.seq (.block 1 (.seq (.ops [⟨(some 85), (.mv (.t 83)), none⟩,
    ⟨(some 86), (.ixS 1 (.t 81) (.t 83)), none⟩,
    ⟨(some 87), (.load false 1 (.t 86)), none⟩,
    ⟨(some 11), (.mv (.t 85)), none⟩,
    ⟨(some 12), (.mv (.t 87)), none⟩])
  (.seq (.ops [⟨(some 88), (.mv (.t 12)), none⟩,
    ⟨(some 89), (.len (.t 88)), none⟩,
    ⟨(some 90), (.load false 1 (.t 3)), none⟩,
    ⟨(some 91), (.len (.t 90)), none⟩,
    ⟨(some 92), (.bin .neq (.t 89) (.t 91)), none⟩,
    ⟨(some 93), (.mv (.t 92)), none⟩,
    ⟨(some 94), (.mv (.t 12)), (some (93, false))⟩,
    ⟨(some 95), (.call (.k (.fn (.func 24) [] [])) [(.t 94), (.k (I 0)), (.k (I 100000))]), (some (93, false))⟩,
    ⟨(some 96), (.un .not (.t 95)), (some (93, false))⟩,
    ⟨(some 97), (.pick (.t 93) (.k (B true)) (.t 96)), none⟩,
    ⟨(some 98), (.mv (.t 97)), none⟩,
    ⟨(some 99), (.mv (.t 0)), (some (98, false))⟩,
    ⟨(some 100), (.load false 1 (.t 3)), (some (98, false))⟩,
    ⟨(some 101), (.call (.k (.fn (.func 23) [] [])) [(.t 99), (.t 100)]), (some (98, false))⟩,
    ⟨(some 102), (.mv (.t 0)), (some (98, false))⟩,
    ⟨(some 103), (.mv (.t 12)), (some (98, false))⟩,
    ⟨(some 104), (.call (.k (.fn (.func 23) [] [])) [(.t 102), (.t 103)]), (some (98, false))⟩,
    ⟨(some 105), (.call (.k (.fn (.func 22) [] [])) [(.t 101), (.t 104)]), (some (98, false))⟩,
    ⟨(some 106), (.un .not (.t 105)), (some (98, false))⟩,
    ⟨(some 107), (.pick (.t 98) (.k (B true)) (.t 106)), none⟩,
    ⟨(some 108), (.mv (.t 107)), none⟩,
    ⟨(some 109), (.mv (.t 11)), (some (108, false))⟩,
    ⟨(some 110), (.bin .gtr (.t 109) (.k (I 0))), (some (108, false))⟩,
    ⟨(some 111), (.mv (.t 110)), (some (108, false))⟩,
    ⟨(some 112), (.mv (.t 5)), (some (111, true))⟩,
    ⟨(some 113), (.mv (.t 11)), (some (111, true))⟩,
    ⟨(some 114), (.bin .sub (.t 113) (.k (I 1))), (some (111, true))⟩,
    ⟨(some 115), (.ixS 1 (.t 112) (.t 114)), (some (111, true))⟩,
    ⟨(some 116), (.load false 1 (.t 115)), (some (111, true))⟩,
    ⟨(some 117), (.mv (.t 12)), (some (111, true))⟩,
    ⟨(some 118), (.call (.k (.fn (.func 41) [] [])) [(.t 116), (.t 117)]), (some (111, true))⟩,
    ⟨(some 119), (.bin .geq (.t 118) (.k (I 0))), (some (111, true))⟩,
    ⟨(some 120), (.pick (.t 111) (.t 119) (.k (B false))), (some (108, false))⟩,
    ⟨(some 121), (.pick (.t 108) (.k (B true)) (.t 120)), none⟩])
  (.cond (.t 121)
    (.seq (.ops [⟨(some 4), (.mv (.k (B false))), none⟩])
    .ret)
    .skip))))
  c15T4))
def c15T3 : ICode := b15T3
theorem w15T3 : W x Q c15T3 ks fr H ms = W x Q b15T3 ks fr H ms := rfl
/- live: [0, 3, 5, 7, 9, 81, 82, 83] -/
abbrev b15L2 : ICode :=
  (.seq (.ops [⟨(some 84), (.bin .lss (.t 83) (.t 82)), none⟩])
  (.seq (.cond (.t 84)
    .skip
    (.exit 0))
  c15T3))
def c15L2 : ICode := b15L2
theorem w15L2 : W x Q c15L2 ks fr H ms = W x Q b15L2 ks fr H ms := rfl
abbrev b15T1 : ICode :=
  (.keep [0, 3, 5, 7, 9] (.seq (.seq (.ops [⟨(some 81), (.mv (.t 5)), none⟩,
    ⟨(some 82), (.len (.t 81)), none⟩,
    ⟨(some 83), (.mv (.k (I 0))), none⟩])
  (.block 0 (.loop c15L2)))
  c15T5))
def c15T1 : ICode := b15T1
theorem w15T1 : W x Q c15T1 ks fr H ms = W x Q b15T1 ks fr H ms := rfl
abbrev b15T0 : ICode :=
  (.view (.keep [0, 3, 5, 7, 8] (.seq (.ops [⟨(some 58), (.mv (.t 0)), none⟩,
    ⟨(some 59), (.call (.k (.fn (.func 18) [] [])) [(.t 58)]), none⟩,
    ⟨(some 60), (.call (.k (.fn (.func 39) [] [])) [(.t 59)]), none⟩,
    ⟨(some 57), (.mv (.t 60)), none⟩,
    ⟨(some 61), (.ext (.t 57) 0), none⟩,
    ⟨(some 62), (.ext (.t 57) 1), none⟩,
    ⟨(some 9), (.mv (.t 61)), none⟩,
    ⟨(some 10), (.mv (.t 62)), none⟩])
  (.seq (.seq (.ops [⟨(some 63), (.mv (.t 8)), none⟩,
    ⟨(some 64), (.bin .neq (.t 63) (.k (I 0))), none⟩,
    ⟨(some 65), (.mv (.t 64)), none⟩,
    ⟨(some 66), (.mv (.t 10)), (some (65, false))⟩,
    ⟨(some 67), (.bin .neq (.t 66) (.k (I 0))), (some (65, false))⟩,
    ⟨(some 68), (.pick (.t 65) (.k (B true)) (.t 67)), none⟩,
    ⟨(some 69), (.mv (.t 68)), none⟩,
    ⟨(some 70), (.mv (.t 7)), (some (69, false))⟩,
    ⟨(some 71), (.mv (.t 5)), (some (69, false))⟩,
    ⟨(some 72), (.len (.t 71)), (some (69, false))⟩,
    ⟨(some 73), (.bin .neq (.t 70) (.t 72)), (some (69, false))⟩,
    ⟨(some 74), (.pick (.t 69) (.k (B true)) (.t 73)), none⟩,
    ⟨(some 75), (.mv (.t 74)), none⟩,
    ⟨(some 76), (.mv (.t 5)), (some (75, false))⟩,
    ⟨(some 77), (.mkfn (.func 60) [] [(.t 3)]), (some (75, false))⟩,
    ⟨(some 78), (.call (.k (.fn (.func 44) [] [])) [(.t 76), (.t 77)]), (some (75, false))⟩,
    ⟨(some 79), (.un .not (.t 78)), (some (75, false))⟩,
    ⟨(some 80), (.pick (.t 75) (.k (B true)) (.t 79)), none⟩])
  (.cond (.t 80)
    (.seq (.ops [⟨(some 4), (.mv (.k (B false))), none⟩])
    .ret)
    .skip))
  c15T1))))
def c15T0 : ICode := b15T0
theorem w15T0 : W x Q c15T0 ks fr H ms = W x Q b15T0 ks fr H ms := rfl
abbrev b15 : ICode :=
  (.seq (.ops [⟨(some 3), (.box (.t 1)), none⟩,
    ⟨(some 4), (.mv (.k (B false))), none⟩])
  (.seq (.draw 0 [] (.early 1 ⟨(some 20), (.mv (.t 0)), none⟩
    (.early 1 ⟨(some 21), (.call (.k (.fn (.func 18) [] [])) [(.t 20)]), none⟩
    (.early 1 ⟨(some 22), (.load false 1 (.t 3)), none⟩
    (.step 0 0 ⟨(some 23), (.call (.k (.fn (.func 19) [] [])) [(.t 22)]), none⟩
    (.step 0 0 ⟨(some 24), (.call (.k (.fn (.func 59) [] [])) [(.t 21), (.t 23)]), none⟩
    (.early 0 ⟨(some 19), (.mv (.t 24)), none⟩
    (.early 1 ⟨(some 25), (.ext (.t 19) 0), none⟩
    (.early 1 ⟨(some 26), (.ext (.t 19) 1), none⟩
    (.early 1 ⟨(some 5), (.mv (.t 25)), none⟩
    (.early 0 ⟨(some 6), (.mv (.t 26)), none⟩
    .done)))))))))))
  (.keep [0, 3, 5, 6] (.seq (.draw 0 [] (.early 1 ⟨(some 28), (.mv (.t 0)), none⟩
    (.early 1 ⟨(some 29), (.call (.k (.fn (.func 18) [] [])) [(.t 28)]), none⟩
    (.early 1 ⟨(some 30), (.load false 1 (.t 3)), none⟩
    (.step 0 0 ⟨(some 31), (.call (.k (.fn (.func 19) [] [])) [(.t 30)]), none⟩
    (.step 0 0 ⟨(some 32), (.call (.k (.fn (.func 58) [] [])) [(.t 29), (.t 31)]), none⟩
    (.early 0 ⟨(some 27), (.mv (.t 32)), none⟩
    (.early 1 ⟨(some 33), (.ext (.t 27) 0), none⟩
    (.early 1 ⟨(some 34), (.ext (.t 27) 1), none⟩
    (.early 1 ⟨(some 7), (.mv (.t 33)), none⟩
    (.early 0 ⟨(some 8), (.mv (.t 34)), none⟩
    .done)))))))))))
  (.keep [0, 3, 5, 6, 7, 8] (.seq (.seq (.ops [⟨(some 35), (.mv (.t 6)), none⟩,
    ⟨(some 36), (.bin .neq (.t 35) (.k (I 0))), none⟩,
    ⟨(some 37), (.mv (.t 36)), none⟩,
    ⟨(some 38), (.mv (.t 0)), (some (37, false))⟩,
    ⟨(some 39), (.load false 1 (.t 3)), (some (37, false))⟩,
    ⟨(some 40), (.call (.k (.fn (.func 21) [] [])) [(.t 38), (.t 39), (.k (I 0)), (.k (I 6))]), (some (37, false))⟩,
    ⟨(some 41), (.un .not (.t 40)), (some (37, false))⟩,
    ⟨(some 42), (.pick (.t 37) (.k (B true)) (.t 41)), none⟩])
  (.cond (.t 42)
    (.seq (.ops [⟨(some 43), (.mv (.t 6)), none⟩,
      ⟨(some 44), (.bin .eql (.t 43) (.k (I 2))), none⟩,
      ⟨(some 45), (.mv (.t 44)), none⟩,
      ⟨(some 46), (.mv (.t 6)), (some (45, false))⟩,
      ⟨(some 47), (.bin .eql (.t 46) (.k (I 5))), (some (45, false))⟩,
      ⟨(some 48), (.pick (.t 45) (.k (B true)) (.t 47)), none⟩,
      ⟨(some 49), (.mv (.t 48)), none⟩,
      ⟨(some 50), (.mv (.t 8)), (some (49, true))⟩,
      ⟨(some 51), (.mv (.t 6)), (some (49, true))⟩,
      ⟨(some 52), (.bin .eql (.t 50) (.t 51)), (some (49, true))⟩,
      ⟨(some 53), (.pick (.t 49) (.t 52) (.k (B false))), none⟩,
      ⟨(some 54), (.mv (.t 53)), none⟩,
      ⟨(some 55), (.call (.k (.fn (.func 25) [] [])) []), (some (54, true))⟩,
      ⟨(some 56), (.pick (.t 54) (.t 55) (.k (B false))), none⟩,
      ⟨(some 4), (.mv (.t 56)), none⟩])
    .ret)
    .skip))
  c15T0))))))
def c15 : ICode := b15
theorem w15 : W x Q c15 ks fr H ms = W x Q b15 ks fr H ms := rfl
def r15 : List IRes := [(.tmp 4)]
theorem t15 : Try.f15.body.bind (trCode Try.prog Try.f15.ntmps) = some (strip c15) := by kernel_rfl
theorem q15 : trRes Try.prog Try.f15.results.toList = some r15 := by kernel_rfl
theorem fn15 : Try.prog.funcs[15]? = some Try.f15 := by kernel_rfl
theorem nn15 : (Try.f15.name == "runtime.NumGoroutine") = false := by kernel_rfl
theorem nt15 : Try.f15.ntmps = 164 := by kernel_rfl
abbrev b16 : ICode :=
  (.seq (.ops [⟨(some 4), (.mv (.k (B false))), none⟩])
  (.seq (.ops [⟨(some 11), (.mv (.t 0)), none⟩,
    ⟨(some 12), (.call (.k (.fn (.func 18) [] [])) [(.t 11)]), none⟩,
    ⟨(some 13), (.mv (.t 1)), none⟩,
    ⟨(some 14), (.call (.k (.fn (.func 19) [] [])) [(.t 13)]), none⟩,
    ⟨(some 15), (.call (.k (.fn (.func 59) [] [])) [(.t 12), (.t 14)]), none⟩,
    ⟨(some 10), (.mv (.t 15)), none⟩,
    ⟨(some 16), (.ext (.t 10) 0), none⟩,
    ⟨(some 17), (.ext (.t 10) 1), none⟩,
    ⟨(some 5), (.mv (.t 16)), none⟩,
    ⟨(some 6), (.mv (.t 17)), none⟩])
  (.seq (.ops [⟨(some 19), (.mv (.t 0)), none⟩,
    ⟨(some 20), (.call (.k (.fn (.func 18) [] [])) [(.t 19)]), none⟩,
    ⟨(some 21), (.mv (.t 1)), none⟩,
    ⟨(some 22), (.call (.k (.fn (.func 19) [] [])) [(.t 21)]), none⟩,
    ⟨(some 23), (.call (.k (.fn (.func 58) [] [])) [(.t 20), (.t 22)]), none⟩,
    ⟨(some 18), (.mv (.t 23)), none⟩,
    ⟨(some 24), (.ext (.t 18) 0), none⟩,
    ⟨(some 25), (.ext (.t 18) 1), none⟩,
    ⟨(some 7), (.mv (.t 24)), none⟩,
    ⟨(some 8), (.mv (.t 25)), none⟩])
  (.seq (.seq (.ops [⟨(some 26), (.mv (.t 0)), none⟩,
    ⟨(some 27), (.mv (.t 1)), none⟩,
    ⟨(some 28), (.call (.k (.fn (.func 21) [] [])) [(.t 26), (.t 27), (.k (I 0)), (.k (I 6))]), none⟩,
    ⟨(some 29), (.un .not (.t 28)), none⟩])
  (.cond (.t 29)
    (.seq (.ops [⟨(some 30), (.mv (.t 5)), none⟩,
      ⟨(some 31), (.len (.t 30)), none⟩,
      ⟨(some 32), (.bin .eql (.t 31) (.k (I 0))), none⟩,
      ⟨(some 33), (.mv (.t 32)), none⟩,
      ⟨(some 34), (.mv (.t 7)), (some (33, true))⟩,
      ⟨(some 35), (.bin .eql (.t 34) (.k (I 0))), (some (33, true))⟩,
      ⟨(some 36), (.pick (.t 33) (.t 35) (.k (B false))), none⟩,
      ⟨(some 37), (.mv (.t 36)), none⟩,
      ⟨(some 38), (.mv (.t 6)), (some (37, true))⟩,
      ⟨(some 39), (.bin .eql (.t 38) (.k (I 2))), (some (37, true))⟩,
      ⟨(some 40), (.pick (.t 37) (.t 39) (.k (B false))), none⟩,
      ⟨(some 41), (.mv (.t 40)), none⟩,
      ⟨(some 42), (.mv (.t 8)), (some (41, true))⟩,
      ⟨(some 43), (.bin .eql (.t 42) (.k (I 2))), (some (41, true))⟩,
      ⟨(some 44), (.pick (.t 41) (.t 43) (.k (B false))), none⟩,
      ⟨(some 45), (.mv (.t 44)), none⟩,
      ⟨(some 46), (.call (.k (.fn (.func 25) [] [])) []), (some (45, true))⟩,
      ⟨(some 47), (.pick (.t 45) (.t 46) (.k (B false))), none⟩,
      ⟨(some 4), (.mv (.t 47)), none⟩])
    .ret)
    .skip))
  (.seq (.seq (.ops [⟨(some 48), (.mv (.t 0)), none⟩,
    ⟨(some 49), (.call (.k (.fn (.func 34) [] [])) [(.t 48)]), none⟩,
    ⟨(some 50), (.len (.t 49)), none⟩,
    ⟨(some 51), (.bin .gtr (.t 50) (.k (I 0))), none⟩])
  (.cond (.t 51)
    (.seq (.ops [⟨(some 52), (.mv (.t 5)), none⟩,
      ⟨(some 53), (.len (.t 52)), none⟩,
      ⟨(some 54), (.bin .eql (.t 53) (.k (I 0))), none⟩,
      ⟨(some 55), (.mv (.t 54)), none⟩,
      ⟨(some 56), (.mv (.t 7)), (some (55, true))⟩,
      ⟨(some 57), (.bin .eql (.t 56) (.k (I 0))), (some (55, true))⟩,
      ⟨(some 58), (.pick (.t 55) (.t 57) (.k (B false))), none⟩,
      ⟨(some 59), (.mv (.t 58)), none⟩,
      ⟨(some 60), (.mv (.t 6)), (some (59, true))⟩,
      ⟨(some 61), (.bin .eql (.t 60) (.k (I 5))), (some (59, true))⟩,
      ⟨(some 62), (.pick (.t 59) (.t 61) (.k (B false))), none⟩,
      ⟨(some 63), (.mv (.t 62)), none⟩,
      ⟨(some 64), (.mv (.t 8)), (some (63, true))⟩,
      ⟨(some 65), (.bin .eql (.t 64) (.k (I 5))), (some (63, true))⟩,
      ⟨(some 66), (.pick (.t 63) (.t 65) (.k (B false))), none⟩,
      ⟨(some 67), (.mv (.t 66)), none⟩,
      ⟨(some 68), (.call (.k (.fn (.func 25) [] [])) []), (some (67, true))⟩,
      ⟨(some 69), (.pick (.t 67) (.t 68) (.k (B false))), none⟩,
      ⟨(some 4), (.mv (.t 69)), none⟩])
    .ret)
    .skip))
  (.seq (.ops [⟨(some 70), (.mv (.t 0)), none⟩,
    ⟨(some 71), (.mv (.t 1)), none⟩,
    ⟨(some 72), (.call (.k (.fn (.func 61) [] [])) [(.t 70), (.t 71)]), none⟩,
    ⟨(some 9), (.mv (.t 72)), none⟩])
  (.seq (.ops [⟨(some 73), (.mv (.t 5)), none⟩,
    ⟨(some 74), (.mv (.t 9)), none⟩,
    ⟨(some 75), (.call (.k (.fn (.func 48) [] [])) [(.t 73), (.t 74)]), none⟩,
    ⟨(some 76), (.mv (.t 75)), none⟩,
    ⟨(some 77), (.mv (.t 7)), (some (76, true))⟩,
    ⟨(some 78), (.mv (.t 9)), (some (76, true))⟩,
    ⟨(some 79), (.len (.t 78)), (some (76, true))⟩,
    ⟨(some 80), (.bin .eql (.t 77) (.t 79)), (some (76, true))⟩,
    ⟨(some 81), (.pick (.t 76) (.t 80) (.k (B false))), none⟩,
    ⟨(some 82), (.mv (.t 81)), none⟩,
    ⟨(some 83), (.mv (.t 6)), (some (82, true))⟩,
    ⟨(some 84), (.bin .eql (.t 83) (.k (I 0))), (some (82, true))⟩,
    ⟨(some 85), (.pick (.t 82) (.t 84) (.k (B false))), none⟩,
    ⟨(some 86), (.mv (.t 85)), none⟩,
    ⟨(some 87), (.mv (.t 8)), (some (86, true))⟩,
    ⟨(some 88), (.bin .eql (.t 87) (.k (I 0))), (some (86, true))⟩,
    ⟨(some 89), (.pick (.t 86) (.t 88) (.k (B false))), none⟩,
    ⟨(some 90), (.mv (.t 89)), none⟩,
    ⟨(some 91), (.call (.k (.fn (.func 25) [] [])) []), (some (90, true))⟩,
    ⟨(some 92), (.pick (.t 90) (.t 91) (.k (B false))), none⟩,
    ⟨(some 4), (.mv (.t 92)), none⟩])
  .ret)))))))
def c16 : ICode := b16
theorem w16 : W x Q c16 ks fr H ms = W x Q b16 ks fr H ms := rfl
def r16 : List IRes := [(.tmp 4)]
theorem t16 : Try.f16.body.bind (trCode Try.prog Try.f16.ntmps) = some (strip c16) := by kernel_rfl
theorem q16 : trRes Try.prog Try.f16.results.toList = some r16 := by kernel_rfl
theorem fn16 : Try.prog.funcs[16]? = some Try.f16 := by kernel_rfl
theorem nn16 : (Try.f16.name == "runtime.NumGoroutine") = false := by kernel_rfl
theorem nt16 : Try.f16.ntmps = 93 := by kernel_rfl
abbrev b60 : ICode :=
  (.seq (.ops [⟨(some 3), (.mv (.k (B false))), none⟩])
  (.seq (.ops [⟨(some 4), (.load false 1 (.t 1)), none⟩,
    ⟨(some 5), (.mv (.t 0)), none⟩,
    ⟨(some 6), (.call (.k (.fn (.func 22) [] [])) [(.t 4), (.t 5)]), none⟩,
    ⟨(some 3), (.mv (.t 6)), none⟩])
  .ret))
def c60 : ICode := b60
theorem w60 : W x Q c60 ks fr H ms = W x Q b60 ks fr H ms := rfl
def r60 : List IRes := [(.tmp 3)]
theorem t60 : Try.f60.body.bind (trCode Try.prog Try.f60.ntmps) = some (strip c60) := by kernel_rfl
theorem q60 : trRes Try.prog Try.f60.results.toList = some r60 := by kernel_rfl
theorem fn60 : Try.prog.funcs[60]? = some Try.f60 := by kernel_rfl
theorem nn60 : (Try.f60.name == "runtime.NumGoroutine") = false := by kernel_rfl
theorem nt60 : Try.f60.ntmps = 7 := by kernel_rfl
end Go.Proofs.Ytipfjfmdjmaflaa
