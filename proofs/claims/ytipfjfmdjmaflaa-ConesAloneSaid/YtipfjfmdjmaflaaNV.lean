/- The code of some functions of the program, cleaned: printed by a program of mine, checked here. -/
import Derived.Test.YtipfjfmdjmaflaaProg
import Derived.Test.YtipfjfmdjmaflaaAS
import Derived.Test.YtipfjfmdjmaflaaKA
import Derived.KernelRfl
namespace Go.Proofs.Ytipfjfmdjmaflaa
open Go.Abs AVal
variable {x : Cx} {Q : QT} {ks : List Kont} {fr : Fr} {H : AHeap} {ms : List Nat}
/- live: [0, 1, 2, 3, 11, 44, 45, 46] -/
abbrev b15T12 : ICode :=
  (.keep [7, 13] (.seq (.ops [⟨(some 157), (.mv (.t 13)), none⟩,
    ⟨(some 158), (.mv (.t 7)), none⟩,
    ⟨(some 159), (.bin .gtr (.t 158) (.k (I 1))), none⟩,
    ⟨(some 160), (.eqb false (.t 157) (.t 159)), none⟩,
    ⟨(some 161), (.mv (.t 160)), none⟩,
    ⟨(some 162), (.call (.k (.fn (.func 25) [] [])) []), (some (161, true))⟩,
    ⟨(some 163), (.pick (.t 161) (.t 162) (.k (B false))), none⟩,
    ⟨(some 4), (.mv (.t 163)), none⟩])
  .ret))
def c15T12 : ICode := b15T12
theorem w15T12 : W x Q c15T12 ks fr H ms = W x Q b15T12 ks fr H ms := rfl
abbrev b15T11 : ICode :=
  (.keep [3, 7, 13, 123, 124, 125] (.ops [⟨(some 156), (.bin .add (.t 125) (.k (I 1))), none⟩,
    ⟨(some 125), (.mv (.t 156)), none⟩]))
def c15T11 : ICode := b15T11
theorem w15T11 : W x Q c15T11 ks fr H ms = W x Q b15T11 ks fr H ms := rfl
abbrev b15T10 : ICode :=
  (.keep [3, 7, 13, 16, 123, 124, 125] (.ops [⟨(some 152), (.mv (.t 13)), none⟩,
    ⟨(some 153), (.mv (.t 152)), none⟩,
    ⟨(some 154), (.mv (.t 16)), (some (153, false))⟩,
    ⟨(some 155), (.pick (.t 153) (.k (B true)) (.t 154)), none⟩,
    ⟨(some 13), (.mv (.t 155)), none⟩]))
def c15T10 : ICode := b15T10
theorem w15T10 : W x Q c15T10 ks fr H ms = W x Q b15T10 ks fr H ms := rfl
abbrev b15T9 : ICode :=
  (.keep [3, 7, 13, 16, 123, 124, 125, 134, 135, 136] (.seq (.block 5 (.seq (.ops [⟨(some 138), (.mv (.t 136)), none⟩,
    ⟨(some 139), (.ixS 1 (.t 134) (.t 136)), none⟩,
    ⟨(some 140), (.load false 1 (.t 139)), none⟩,
    ⟨(some 17), (.mv (.t 138)), none⟩,
    ⟨(some 18), (.mv (.t 140)), none⟩])
  (.ops [⟨(some 141), (.mv (.t 16)), none⟩,
    ⟨(some 142), (.mv (.t 141)), none⟩,
    ⟨(some 143), (.load false 1 (.t 3)), (some (142, true))⟩,
    ⟨(some 144), (.mv (.t 17)), (some (142, true))⟩,
    ⟨(some 145), (.ixS 1 (.t 143) (.t 144)), (some (142, true))⟩,
    ⟨(some 146), (.load false 1 (.t 145)), (some (142, true))⟩,
    ⟨(some 147), (.mv (.t 18)), (some (142, true))⟩,
    ⟨(some 148), (.bin .add (.t 146) (.t 147)), (some (142, true))⟩,
    ⟨(some 149), (.bin .geq (.t 148) (.k (I 0))), (some (142, true))⟩,
    ⟨(some 150), (.pick (.t 142) (.t 149) (.k (B false))), none⟩,
    ⟨(some 16), (.mv (.t 150)), none⟩])))
  (.ops [⟨(some 151), (.bin .add (.t 136) (.k (I 1))), none⟩,
    ⟨(some 136), (.mv (.t 151)), none⟩])))
def c15T9 : ICode := b15T9
theorem w15T9 : W x Q c15T9 ks fr H ms = W x Q b15T9 ks fr H ms := rfl
/- live: [3, 7, 13, 16, 123, 124, 125, 134, 135, 136] -/
abbrev b15L8 : ICode :=
  (.seq (.ops [⟨(some 137), (.bin .lss (.t 136) (.t 135)), none⟩])
  (.seq (.cond (.t 137)
    .skip
    (.exit 4))
  c15T9))
def c15L8 : ICode := b15L8
theorem w15L8 : W x Q c15L8 ks fr H ms = W x Q b15L8 ks fr H ms := rfl
abbrev b15T7 : ICode :=
  (.keep [3, 7, 13, 123, 124, 125] (.seq (.block 3 (.seq (.ops [⟨(some 127), (.ixS 1 (.t 123) (.t 125)), none⟩,
    ⟨(some 128), (.load false 1 (.t 127)), none⟩,
    ⟨(some 15), (.mv (.t 128)), none⟩])
  (.seq (.ops [⟨(some 129), (.mv (.t 15)), none⟩,
    ⟨(some 130), (.len (.t 129)), none⟩,
    ⟨(some 131), (.load false 1 (.t 3)), none⟩,
    ⟨(some 132), (.len (.t 131)), none⟩,
    ⟨(some 133), (.bin .eql (.t 130) (.t 132)), none⟩,
    ⟨(some 16), (.mv (.t 133)), none⟩])
  (.seq (.seq (.ops [⟨(some 134), (.mv (.t 15)), none⟩,
    ⟨(some 135), (.len (.t 134)), none⟩,
    ⟨(some 136), (.mv (.k (I 0))), none⟩])
  (.block 4 (.loop c15L8)))
  c15T10))))
  c15T11))
def c15T7 : ICode := b15T7
theorem w15T7 : W x Q c15T7 ks fr H ms = W x Q b15T7 ks fr H ms := rfl
/- live: [3, 7, 13, 123, 124, 125] -/
abbrev b15L6 : ICode :=
  (.seq (.ops [⟨(some 126), (.bin .lss (.t 125) (.t 124)), none⟩])
  (.seq (.cond (.t 126)
    .skip
    (.exit 2))
  c15T7))
def c15L6 : ICode := b15L6
theorem w15L6 : W x Q c15L6 ks fr H ms = W x Q b15L6 ks fr H ms := rfl
abbrev b15T5 : ICode :=
  (.keep [3, 7, 9] (.seq (.ops [⟨(some 13), (.mv (.k (B false))), none⟩])
  (.seq (.seq (.ops [⟨(some 123), (.mv (.t 9)), none⟩,
    ⟨(some 124), (.len (.t 123)), none⟩,
    ⟨(some 125), (.mv (.k (I 0))), none⟩])
  (.block 2 (.loop c15L6)))
  c15T12)))
def c15T5 : ICode := b15T5
theorem w15T5 : W x Q c15T5 ks fr H ms = W x Q b15T5 ks fr H ms := rfl
abbrev b15T4 : ICode :=
  (.keep [0, 3, 5, 7, 9, 81, 82, 83] (.ops [⟨(some 122), (.bin .add (.t 83) (.k (I 1))), none⟩,
    ⟨(some 83), (.mv (.t 122)), none⟩]))
def c15T4 : ICode := b15T4
theorem w15T4 : W x Q c15T4 ks fr H ms = W x Q b15T4 ks fr H ms := rfl
abbrev b15T3 : ICode :=
  (.keep [0, 3, 5, 7, 9, 81, 82, 83] (.seq (.block 1 (.seq (.ops [⟨(some 85), (.mv (.t 83)), none⟩,
    ⟨(some 86), (.ixS 1 (.t 81) (.t 83)), none⟩,
    ⟨(some 87), (.load false 1 (.t 86)), none⟩,
    ⟨(some 11), (.mv (.t 85)), none⟩,
    ⟨(some 12), (.mv (.t 87)), none⟩])
  (.seq (.ops [⟨(some 88), (.mv (.t 12)), none⟩,
    ⟨(some 89), (.len (.t 88)), none⟩,
    ⟨(some 90), (.load false 1 (.t 3)), none⟩,
    ⟨(some 91), (.len (.t 90)), none⟩,
    ⟨(some 92), (.bin .neq (.t 89) (.t 91)), none⟩,
    ⟨(some 93), (.mv (.t 92)), none⟩,
    ⟨(some 94), (.mv (.t 12)), (some (93, false))⟩,
    ⟨(some 95), (.call (.k (.fn (.func 24) [] [])) [(.t 94), (.k (I 0)), (.k (I 100000))]), (some (93, false))⟩,
    ⟨(some 96), (.un .not (.t 95)), (some (93, false))⟩,
    ⟨(some 97), (.pick (.t 93) (.k (B true)) (.t 96)), none⟩,
    ⟨(some 98), (.mv (.t 97)), none⟩,
    ⟨(some 99), (.mv (.t 0)), (some (98, false))⟩,
    ⟨(some 100), (.load false 1 (.t 3)), (some (98, false))⟩,
    ⟨(some 101), (.call (.k (.fn (.func 23) [] [])) [(.t 99), (.t 100)]), (some (98, false))⟩,
    ⟨(some 102), (.mv (.t 0)), (some (98, false))⟩,
    ⟨(some 103), (.mv (.t 12)), (some (98, false))⟩,
    ⟨(some 104), (.call (.k (.fn (.func 23) [] [])) [(.t 102), (.t 103)]), (some (98, false))⟩,
    ⟨(some 105), (.call (.k (.fn (.func 22) [] [])) [(.t 101), (.t 104)]), (some (98, false))⟩,
    ⟨(some 106), (.un .not (.t 105)), (some (98, false))⟩,
    ⟨(some 107), (.pick (.t 98) (.k (B true)) (.t 106)), none⟩,
    ⟨(some 108), (.mv (.t 107)), none⟩,
    ⟨(some 109), (.mv (.t 11)), (some (108, false))⟩,
    ⟨(some 110), (.bin .gtr (.t 109) (.k (I 0))), (some (108, false))⟩,
    ⟨(some 111), (.mv (.t 110)), (some (108, false))⟩,
    ⟨(some 112), (.mv (.t 5)), (some (111, true))⟩,
    ⟨(some 113), (.mv (.t 11)), (some (111, true))⟩,
    ⟨(some 114), (.bin .sub (.t 113) (.k (I 1))), (some (111, true))⟩,
    ⟨(some 115), (.ixS 1 (.t 112) (.t 114)), (some (111, true))⟩,
    ⟨(some 116), (.load false 1 (.t 115)), (some (111, true))⟩,
    ⟨(some 117), (.mv (.t 12)), (some (111, true))⟩,
    ⟨(some 118), (.call (.k (.fn (.func 41) [] [])) [(.t 116), (.t 117)]), (some (111, true))⟩,
    ⟨(some 119), (.bin .geq (.t 118) (.k (I 0))), (some (111, true))⟩,
    ⟨(some 120), (.pick (.t 111) (.t 119) (.k (B false))), (some (108, false))⟩,
    ⟨(some 121), (.pick (.t 108) (.k (B true)) (.t 120)), none⟩])
  (.cond (.t 121)
    (.seq (.ops [⟨(some 4), (.mv (.k (B false))), none⟩])
    .ret)
    .skip))))
  c15T4))
def c15T3 : ICode := b15T3
theorem w15T3 : W x Q c15T3 ks fr H ms = W x Q b15T3 ks fr H ms := rfl
/- live: [0, 3, 5, 7, 9, 81, 82, 83] -/
abbrev b15L2 : ICode :=
  (.seq (.ops [⟨(some 84), (.bin .lss (.t 83) (.t 82)), none⟩])
  (.seq (.cond (.t 84)
    .skip
    (.exit 0))
  c15T3))
def c15L2 : ICode := b15L2
theorem w15L2 : W x Q c15L2 ks fr H ms = W x Q b15L2 ks fr H ms := rfl
abbrev b15T1 : ICode :=
  (.keep [0, 3, 5, 7, 9] (.seq (.seq (.ops [⟨(some 81), (.mv (.t 5)), none⟩,
    ⟨(some 82), (.len (.t 81)), none⟩,
    ⟨(some 83), (.mv (.k (I 0))), none⟩])
  (.block 0 (.loop c15L2)))
  c15T5))
def c15T1 : ICode := b15T1
theorem w15T1 : W x Q c15T1 ks fr H ms = W x Q b15T1 ks fr H ms := rfl
abbrev b15T0 : ICode :=
  (.view (.keep [0, 3, 5, 7, 8] (.seq (.ops [⟨(some 58), (.mv (.t 0)), none⟩,
    ⟨(some 59), (.call (.k (.fn (.func 18) [] [])) [(.t 58)]), none⟩,
    ⟨(some 60), (.call (.k (.fn (.func 39) [] [])) [(.t 59)]), none⟩,
    ⟨(some 57), (.mv (.t 60)), none⟩,
    ⟨(some 61), (.ext (.t 57) 0), none⟩,
    ⟨(some 62), (.ext (.t 57) 1), none⟩,
    ⟨(some 9), (.mv (.t 61)), none⟩,
    ⟨(some 10), (.mv (.t 62)), none⟩])
  (.seq (.seq (.ops [⟨(some 63), (.mv (.t 8)), none⟩,
    ⟨(some 64), (.bin .neq (.t 63) (.k (I 0))), none⟩,
    ⟨(some 65), (.mv (.t 64)), none⟩,
    ⟨(some 66), (.mv (.t 10)), (some (65, false))⟩,
    ⟨(some 67), (.bin .neq (.t 66) (.k (I 0))), (some (65, false))⟩,
    ⟨(some 68), (.pick (.t 65) (.k (B true)) (.t 67)), none⟩,
    ⟨(some 69), (.mv (.t 68)), none⟩,
    ⟨(some 70), (.mv (.t 7)), (some (69, false))⟩,
    ⟨(some 71), (.mv (.t 5)), (some (69, false))⟩,
    ⟨(some 72), (.len (.t 71)), (some (69, false))⟩,
    ⟨(some 73), (.bin .neq (.t 70) (.t 72)), (some (69, false))⟩,
    ⟨(some 74), (.pick (.t 69) (.k (B true)) (.t 73)), none⟩,
    ⟨(some 75), (.mv (.t 74)), none⟩,
    ⟨(some 76), (.mv (.t 5)), (some (75, false))⟩,
    ⟨(some 77), (.mkfn (.func 60) [] [(.t 3)]), (some (75, false))⟩,
    ⟨(some 78), (.call (.k (.fn (.func 44) [] [])) [(.t 76), (.t 77)]), (some (75, false))⟩,
    ⟨(some 79), (.un .not (.t 78)), (some (75, false))⟩,
    ⟨(some 80), (.pick (.t 75) (.k (B true)) (.t 79)), none⟩])
  (.cond (.t 80)
    (.seq (.ops [⟨(some 4), (.mv (.k (B false))), none⟩])
    .ret)
    .skip))
  c15T1))))
def c15T0 : ICode := b15T0
theorem w15T0 : W x Q c15T0 ks fr H ms = W x Q b15T0 ks fr H ms := rfl
abbrev b15 : ICode :=
  (.seq (.ops [⟨(some 3), (.box (.t 1)), none⟩,
    ⟨(some 4), (.mv (.k (B false))), none⟩])
  (.seq (.draw 0 [] (.early 1 ⟨(some 20), (.mv (.t 0)), none⟩
    (.early 1 ⟨(some 21), (.call (.k (.fn (.func 18) [] [])) [(.t 20)]), none⟩
    (.early 1 ⟨(some 22), (.load false 1 (.t 3)), none⟩
    (.step 0 0 ⟨(some 23), (.call (.k (.fn (.func 19) [] [])) [(.t 22)]), none⟩
    (.step 0 0 ⟨(some 24), (.call (.k (.fn (.func 59) [] [])) [(.t 21), (.t 23)]), none⟩
    (.early 0 ⟨(some 19), (.mv (.t 24)), none⟩
    (.early 1 ⟨(some 25), (.ext (.t 19) 0), none⟩
    (.early 1 ⟨(some 26), (.ext (.t 19) 1), none⟩
    (.early 1 ⟨(some 5), (.mv (.t 25)), none⟩
    (.early 0 ⟨(some 6), (.mv (.t 26)), none⟩
    .done)))))))))))
  (.keep [0, 3, 5, 6] (.seq (.draw 0 [] (.early 1 ⟨(some 28), (.mv (.t 0)), none⟩
    (.early 1 ⟨(some 29), (.call (.k (.fn (.func 18) [] [])) [(.t 28)]), none⟩
    (.early 1 ⟨(some 30), (.load false 1 (.t 3)), none⟩
    (.step 0 0 ⟨(some 31), (.call (.k (.fn (.func 19) [] [])) [(.t 30)]), none⟩
    (.step 0 0 ⟨(some 32), (.call (.k (.fn (.func 58) [] [])) [(.t 29), (.t 31)]), none⟩
    (.early 0 ⟨(some 27), (.mv (.t 32)), none⟩
    (.early 1 ⟨(some 33), (.ext (.t 27) 0), none⟩
    (.early 1 ⟨(some 34), (.ext (.t 27) 1), none⟩
    (.early 1 ⟨(some 7), (.mv (.t 33)), none⟩
    (.early 0 ⟨(some 8), (.mv (.t 34)), none⟩
    .done)))))))))))
  (.keep [0, 3, 5, 6, 7, 8] (.seq (.seq (.ops [⟨(some 35), (.mv (.t 6)), none⟩,
    ⟨(some 36), (.bin .neq (.t 35) (.k (I 0))), none⟩,
    ⟨(some 37), (.mv (.t 36)), none⟩,
    ⟨(some 38), (.mv (.t 0)), (some (37, false))⟩,
    ⟨(some 39), (.load false 1 (.t 3)), (some (37, false))⟩,
    ⟨(some 40), (.call (.k (.fn (.func 21) [] [])) [(.t 38), (.t 39), (.k (I 0)), (.k (I 6))]), (some (37, false))⟩,
    ⟨(some 41), (.un .not (.t 40)), (some (37, false))⟩,
    ⟨(some 42), (.pick (.t 37) (.k (B true)) (.t 41)), none⟩])
  (.cond (.t 42)
    (.seq (.ops [⟨(some 43), (.mv (.t 6)), none⟩,
      ⟨(some 44), (.bin .eql (.t 43) (.k (I 2))), none⟩,
      ⟨(some 45), (.mv (.t 44)), none⟩,
      ⟨(some 46), (.mv (.t 6)), (some (45, false))⟩,
      ⟨(some 47), (.bin .eql (.t 46) (.k (I 5))), (some (45, false))⟩,
      ⟨(some 48), (.pick (.t 45) (.k (B true)) (.t 47)), none⟩,
      ⟨(some 49), (.mv (.t 48)), none⟩,
      ⟨(some 50), (.mv (.t 8)), (some (49, true))⟩,
      ⟨(some 51), (.mv (.t 6)), (some (49, true))⟩,
      ⟨(some 52), (.bin .eql (.t 50) (.t 51)), (some (49, true))⟩,
      ⟨(some 53), (.pick (.t 49) (.t 52) (.k (B false))), none⟩,
      ⟨(some 54), (.mv (.t 53)), none⟩,
      ⟨(some 55), (.call (.k (.fn (.func 25) [] [])) []), (some (54, true))⟩,
      ⟨(some 56), (.pick (.t 54) (.t 55) (.k (B false))), none⟩,
      ⟨(some 4), (.mv (.t 56)), none⟩])
    .ret)
    .skip))
  c15T0))))))
def c15 : ICode := b15
theorem w15 : W x Q c15 ks fr H ms = W x Q b15 ks fr H ms := rfl
def r15 : List IRes := [(.tmp 4)]
theorem t15 : Try.f15.body.bind (trCode Try.prog Try.f15.ntmps) = some (strip c15) := by kernel_rfl
theorem q15 : trRes Try.prog Try.f15.results.toList = some r15 := by kernel_rfl
theorem fn15 : Try.prog.funcs[15]? = some Try.f15 := by kernel_rfl
theorem nn15 : (Try.f15.name == "runtime.NumGoroutine") = false := by kernel_rfl
theorem nt15 : Try.f15.ntmps = 164 := by kernel_rfl
abbrev b60 : ICode :=
  (.seq (.ops [⟨(some 3), (.mv (.k (B false))), none⟩])
  (.seq (.ops [⟨(some 4), (.load false 1 (.t 1)), none⟩,
    ⟨(some 5), (.mv (.t 0)), none⟩,
    ⟨(some 6), (.call (.k (.fn (.func 22) [] [])) [(.t 4), (.t 5)]), none⟩,
    ⟨(some 3), (.mv (.t 6)), none⟩])
  .ret))
def c60 : ICode := b60
theorem w60 : W x Q c60 ks fr H ms = W x Q b60 ks fr H ms := rfl
def r60 : List IRes := [(.tmp 3)]
theorem t60 : Try.f60.body.bind (trCode Try.prog Try.f60.ntmps) = some (strip c60) := by kernel_rfl
theorem q60 : trRes Try.prog Try.f60.results.toList = some r60 := by kernel_rfl
theorem fn60 : Try.prog.funcs[60]? = some Try.f60 := by kernel_rfl
theorem nn60 : (Try.f60.name == "runtime.NumGoroutine") = false := by kernel_rfl
theorem nt60 : Try.f60.ntmps = 7 := by kernel_rfl
end Go.Proofs.Ytipfjfmdjmaflaa
