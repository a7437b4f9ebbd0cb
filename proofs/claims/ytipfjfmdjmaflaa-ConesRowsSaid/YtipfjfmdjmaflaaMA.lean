/- The code of some functions of the program, cleaned: printed by a program of mine, checked here. -/
import Derived.Test.YtipfjfmdjmaflaaProg
import Derived.Test.YtipfjfmdjmaflaaAS
import Derived.KernelRfl
import Derived.Test.YtipfjfmdjmaflaaKA
namespace Go.Proofs.Ytipfjfmdjmaflaa
open Go.Abs AVal
variable {x : Cx} {Q : QT} {ks : List Kont} {fr : Fr} {H : AHeap} {ms : List Nat}
abbrev b8T5 : ICode :=
  (.keep [] (.seq (.ops [⟨(some 127), (.call (.k (.fn (.func 25) [] [])) []), none⟩,
    ⟨(some 2), (.mv (.t 127)), none⟩])
  .ret))
def c8T5 : ICode := b8T5
theorem w8T5 : W x Q c8T5 ks fr H ms = W x Q b8T5 ks fr H ms := rfl
abbrev b8T4 : ICode :=
  (.keep [0, 3, 36, 37, 38] (.ops [⟨(some 126), (.bin .add (.t 38) (.k (I 1))), none⟩,
    ⟨(some 38), (.mv (.t 126)), none⟩]))
def c8T4 : ICode := b8T4
theorem w8T4 : W x Q c8T4 ks fr H ms = W x Q b8T4 ks fr H ms := rfl
/- live: [0, 3, 5, 6, 36, 37, 38, 110, 111, 112] -/
abbrev b8L3 : ICode :=
  (.seq (.ops [⟨(some 113), (.bin .lss (.t 112) (.t 111)), none⟩])
  (.seq (.cond (.t 113)
    .skip
    (.exit 4))
  (.seq (.block 5 (.seq (.ops [⟨(some 114), (.mv (.t 112)), none⟩,
    ⟨(some 115), (.ixS 1 (.t 110) (.t 112)), none⟩,
    ⟨(some 116), (.load false 1 (.t 115)), none⟩,
    ⟨(some 13), (.mv (.t 114)), none⟩,
    ⟨(some 14), (.mv (.t 116)), none⟩])
  (.seq (.ops [⟨(some 117), (.mv (.t 5)), none⟩,
    ⟨(some 118), (.mv (.t 13)), none⟩,
    ⟨(some 119), (.bin .neq (.t 117) (.t 118)), none⟩,
    ⟨(some 120), (.mv (.t 119)), none⟩,
    ⟨(some 121), (.mv (.t 14)), (some (120, true))⟩,
    ⟨(some 122), (.mv (.t 6)), (some (120, true))⟩,
    ⟨(some 123), (.call (.k (.fn (.func 26) [] [])) [(.t 121), (.t 122)]), (some (120, true))⟩,
    ⟨(some 124), (.pick (.t 120) (.t 123) (.k (B false))), none⟩])
  (.cond (.t 124)
    (.seq (.ops [⟨(some 2), (.mv (.k (B false))), none⟩])
    .ret)
    .skip))))
  (.ops [⟨(some 125), (.bin .add (.t 112) (.k (I 1))), none⟩,
    ⟨(some 112), (.mv (.t 125)), none⟩]))))
def c8L3 : ICode := b8L3
theorem w8L3 : W x Q c8L3 ks fr H ms = W x Q b8L3 ks fr H ms := rfl
abbrev b8T2 : ICode :=
  (.keep [0, 3, 5, 6, 7, 8, 36, 37, 38] (.seq (.ops [⟨(some 87), (.mv (.t 0)), none⟩,
    ⟨(some 88), (.call (.k (.fn (.func 18) [] [])) [(.t 87)]), none⟩,
    ⟨(some 89), (.mv (.t 6)), none⟩,
    ⟨(some 90), (.call (.k (.fn (.func 38) [] [])) [(.t 89)]), none⟩,
    ⟨(some 91), (.call (.k (.fn (.func 17) [] [])) [(.t 88), (.t 90)]), none⟩,
    ⟨(some 86), (.mv (.t 91)), none⟩,
    ⟨(some 92), (.ext (.t 86) 0), none⟩,
    ⟨(some 93), (.ext (.t 86) 1), none⟩,
    ⟨(some 11), (.mv (.t 92)), none⟩,
    ⟨(some 12), (.mv (.t 93)), none⟩])
  (.seq (.seq (.ops [⟨(some 94), (.mv (.t 12)), none⟩,
    ⟨(some 95), (.bin .neq (.t 94) (.k (I 0))), none⟩,
    ⟨(some 96), (.mv (.t 95)), none⟩,
    ⟨(some 97), (.mv (.t 11)), (some (96, false))⟩,
    ⟨(some 98), (.call (.k (.fn (.func 42) [] [])) [(.t 97), (.k (.fn (.func 43) [] []))]), (some (96, false))⟩,
    ⟨(some 99), (.pick (.t 96) (.k (B true)) (.t 98)), none⟩,
    ⟨(some 100), (.mv (.t 99)), none⟩,
    ⟨(some 101), (.mv (.t 8)), (some (100, false))⟩,
    ⟨(some 102), (.un .not (.t 101)), (some (100, false))⟩,
    ⟨(some 103), (.pick (.t 100) (.k (B true)) (.t 102)), none⟩,
    ⟨(some 104), (.mv (.t 103)), none⟩,
    ⟨(some 105), (.mv (.t 3)), (some (104, false))⟩,
    ⟨(some 106), (.mkfn (.func 45) [] [(.t 7)]), (some (104, false))⟩,
    ⟨(some 107), (.call (.k (.fn (.func 44) [] [])) [(.t 105), (.t 106)]), (some (104, false))⟩,
    ⟨(some 108), (.un .not (.t 107)), (some (104, false))⟩,
    ⟨(some 109), (.pick (.t 104) (.k (B true)) (.t 108)), none⟩])
  (.cond (.t 109)
    (.seq (.ops [⟨(some 2), (.mv (.k (B false))), none⟩])
    .ret)
    .skip))
  (.seq (.ops [⟨(some 110), (.mv (.t 3)), none⟩,
    ⟨(some 111), (.len (.t 110)), none⟩,
    ⟨(some 112), (.mv (.k (I 0))), none⟩])
  (.block 4 (.loop c8L3))))))
def c8T2 : ICode := b8T2
theorem w8T2 : W x Q c8T2 ks fr H ms = W x Q b8T2 ks fr H ms := rfl
/- live: [0, 3, 5, 6, 7, 8, 36, 37, 38, 69, 70, 71] -/
abbrev b8L1 : ICode :=
  (.seq (.ops [⟨(some 72), (.bin .lss (.t 71) (.t 70)), none⟩])
  (.seq (.cond (.t 72)
    .skip
    (.exit 2))
  (.seq (.block 3 (.seq (.ops [⟨(some 73), (.ixS 1 (.t 69) (.t 71)), none⟩,
    ⟨(some 74), (.load false 1 (.t 73)), none⟩,
    ⟨(some 10), (.mv (.t 74)), none⟩])
  (.seq (.ops [⟨(some 75), (.load false 1 (.t 7)), none⟩,
    ⟨(some 76), (.mv (.t 10)), none⟩,
    ⟨(some 77), (.un .neg (.t 76)), none⟩,
    ⟨(some 78), (.bslice 1 1 [(I 0)] [(0, 1, (.t 77))]), none⟩,
    ⟨(some 79), (.append 1 8 (.t 75) (.t 78)), none⟩,
    ⟨none, (.store 1 (.t 7) (.t 79)), none⟩])
  (.ops [⟨(some 80), (.mv (.t 8)), none⟩,
    ⟨(some 81), (.mv (.t 80)), none⟩,
    ⟨(some 82), (.mv (.t 10)), (some (81, false))⟩,
    ⟨(some 83), (.bin .neq (.t 82) (.k (I 0))), (some (81, false))⟩,
    ⟨(some 84), (.pick (.t 81) (.k (B true)) (.t 83)), none⟩,
    ⟨(some 8), (.mv (.t 84)), none⟩]))))
  (.ops [⟨(some 85), (.bin .add (.t 71) (.k (I 1))), none⟩,
    ⟨(some 71), (.mv (.t 85)), none⟩]))))
def c8L1 : ICode := b8L1
theorem w8L1 : W x Q c8L1 ks fr H ms = W x Q b8L1 ks fr H ms := rfl
/- live: [0, 3, 36, 37, 38] -/
abbrev b8L0 : ICode :=
  (.seq (.ops [⟨(some 39), (.bin .lss (.t 38) (.t 37)), none⟩])
  (.seq (.cond (.t 39)
    .skip
    (.exit 0))
  (.seq (.block 1 (.seq (.ops [⟨(some 40), (.mv (.t 38)), none⟩,
    ⟨(some 41), (.ixS 1 (.t 36) (.t 38)), none⟩,
    ⟨(some 42), (.load false 1 (.t 41)), none⟩,
    ⟨(some 5), (.mv (.t 40)), none⟩,
    ⟨(some 6), (.mv (.t 42)), none⟩])
  (.seq (.seq (.ops [⟨(some 43), (.mv (.t 6)), none⟩,
    ⟨(some 44), (.len (.t 43)), none⟩,
    ⟨(some 45), (.mv (.t 0)), none⟩,
    ⟨(some 46), (.ixS 1 (.t 45) (.k (I 0))), none⟩,
    ⟨(some 47), (.load false 1 (.t 46)), none⟩,
    ⟨(some 48), (.len (.t 47)), none⟩,
    ⟨(some 49), (.bin .neq (.t 44) (.t 48)), none⟩,
    ⟨(some 50), (.mv (.t 49)), none⟩,
    ⟨(some 51), (.mv (.t 6)), (some (50, false))⟩,
    ⟨(some 52), (.call (.k (.fn (.func 24) [] [])) [(.t 51), (.k (I (-1000))), (.k (I 1000))]), (some (50, false))⟩,
    ⟨(some 53), (.un .not (.t 52)), (some (50, false))⟩,
    ⟨(some 54), (.pick (.t 50) (.k (B true)) (.t 53)), none⟩,
    ⟨(some 55), (.mv (.t 54)), none⟩,
    ⟨(some 56), (.mv (.t 5)), (some (55, false))⟩,
    ⟨(some 57), (.bin .gtr (.t 56) (.k (I 0))), (some (55, false))⟩,
    ⟨(some 58), (.mv (.t 57)), (some (55, false))⟩,
    ⟨(some 59), (.mv (.t 3)), (some (58, true))⟩,
    ⟨(some 60), (.mv (.t 5)), (some (58, true))⟩,
    ⟨(some 61), (.bin .sub (.t 60) (.k (I 1))), (some (58, true))⟩,
    ⟨(some 62), (.ixS 1 (.t 59) (.t 61)), (some (58, true))⟩,
    ⟨(some 63), (.load false 1 (.t 62)), (some (58, true))⟩,
    ⟨(some 64), (.mv (.t 6)), (some (58, true))⟩,
    ⟨(some 65), (.call (.k (.fn (.func 41) [] [])) [(.t 63), (.t 64)]), (some (58, true))⟩,
    ⟨(some 66), (.bin .geq (.t 65) (.k (I 0))), (some (58, true))⟩,
    ⟨(some 67), (.pick (.t 58) (.t 66) (.k (B false))), (some (55, false))⟩,
    ⟨(some 68), (.pick (.t 55) (.k (B true)) (.t 67)), none⟩])
  (.cond (.t 68)
    (.seq (.ops [⟨(some 2), (.mv (.k (B false))), none⟩])
    .ret)
    .skip))
  (.seq (.ops [⟨(some 7), (.alloc [nilSl]), none⟩])
  (.seq (.ops [⟨(some 8), (.mv (.k (B false))), none⟩])
  (.seq (.seq (.ops [⟨(some 69), (.mv (.t 6)), none⟩,
    ⟨(some 70), (.len (.t 69)), none⟩,
    ⟨(some 71), (.mv (.k (I 0))), none⟩])
  (.block 2 (.loop c8L1)))
  c8T2))))))
  c8T4)))
def c8L0 : ICode := b8L0
theorem w8L0 : W x Q c8L0 ks fr H ms = W x Q b8L0 ks fr H ms := rfl
abbrev b8 : ICode :=
  (.seq (.ops [⟨(some 2), (.mv (.k (B false))), none⟩])
  (.seq (.ops [⟨(some 16), (.mv (.t 0)), none⟩,
    ⟨(some 17), (.call (.k (.fn (.func 18) [] [])) [(.t 16)]), none⟩,
    ⟨(some 18), (.call (.k (.fn (.func 39) [] [])) [(.t 17)]), none⟩,
    ⟨(some 15), (.mv (.t 18)), none⟩,
    ⟨(some 19), (.ext (.t 15) 0), none⟩,
    ⟨(some 20), (.ext (.t 15) 1), none⟩,
    ⟨(some 3), (.mv (.t 19)), none⟩,
    ⟨(some 4), (.mv (.t 20)), none⟩])
  (.seq (.seq (.ops [⟨(some 21), (.mv (.t 4)), none⟩,
    ⟨(some 22), (.bin .neq (.t 21) (.k (I 0))), none⟩,
    ⟨(some 23), (.mv (.t 22)), none⟩,
    ⟨(some 24), (.mv (.t 0)), (some (23, false))⟩,
    ⟨(some 25), (.call (.k (.fn (.func 40) [] [])) [(.t 24)]), (some (23, false))⟩,
    ⟨(some 26), (.un .not (.t 25)), (some (23, false))⟩,
    ⟨(some 27), (.pick (.t 23) (.k (B true)) (.t 26)), none⟩])
  (.cond (.t 27)
    (.seq (.ops [⟨(some 28), (.mv (.t 4)), none⟩,
      ⟨(some 29), (.bin .eql (.t 28) (.k (I 2))), none⟩,
      ⟨(some 30), (.mv (.t 29)), none⟩,
      ⟨(some 31), (.call (.k (.fn (.func 25) [] [])) []), (some (30, true))⟩,
      ⟨(some 32), (.pick (.t 30) (.t 31) (.k (B false))), none⟩,
      ⟨(some 2), (.mv (.t 32)), none⟩])
    .ret)
    .skip))
  (.seq (.seq (.ops [⟨(some 33), (.mv (.t 3)), none⟩,
    ⟨(some 34), (.len (.t 33)), none⟩,
    ⟨(some 35), (.bin .gtr (.t 34) (.k (I 400))), none⟩])
  (.cond (.t 35)
    (.seq (.ops [⟨(some 2), (.mv (.k (B false))), none⟩])
    .ret)
    .skip))
  (.seq (.seq (.ops [⟨(some 36), (.mv (.t 3)), none⟩,
    ⟨(some 37), (.len (.t 36)), none⟩,
    ⟨(some 38), (.mv (.k (I 0))), none⟩])
  (.block 0 (.loop c8L0)))
  c8T5)))))
def c8 : ICode := b8
theorem w8 : W x Q c8 ks fr H ms = W x Q b8 ks fr H ms := rfl
def r8 : List IRes := [(.tmp 2)]
theorem t8 : Try.f8.body.bind (trCode Try.prog Try.f8.ntmps) = some (strip c8) := by kernel_rfl
theorem q8 : trRes Try.prog Try.f8.results.toList = some r8 := by kernel_rfl
theorem fn8 : Try.prog.funcs[8]? = some Try.f8 := by kernel_rfl
theorem nn8 : (Try.f8.name == "runtime.NumGoroutine") = false := by kernel_rfl
theorem nt8 : Try.f8.ntmps = 128 := by kernel_rfl
abbrev b9T3 : ICode :=
  (.keep [8, 13, 14] (.seq (.ops [⟨(some 113), (.mv (.t 14)), none⟩,
    ⟨(some 114), (.call (.k (.fn (.func 46) [] [])) [(.t 113), (.k (.fn (.func 47) [] []))]), none⟩])
  (.seq (.ops [⟨(some 115), (.mv (.t 8)), none⟩,
    ⟨(some 116), (.bin .eql (.t 115) (.k (I 0))), none⟩,
    ⟨(some 117), (.mv (.t 116)), none⟩,
    ⟨(some 118), (.mv (.t 13)), (some (117, true))⟩,
    ⟨(some 119), (.mv (.t 14)), (some (117, true))⟩,
    ⟨(some 120), (.call (.k (.fn (.func 48) [] [])) [(.t 118), (.t 119)]), (some (117, true))⟩,
    ⟨(some 121), (.pick (.t 117) (.t 120) (.k (B false))), none⟩,
    ⟨(some 122), (.mv (.t 121)), none⟩,
    ⟨(some 123), (.call (.k (.fn (.func 25) [] [])) []), (some (122, true))⟩,
    ⟨(some 124), (.pick (.t 122) (.t 123) (.k (B false))), none⟩,
    ⟨(some 6), (.mv (.t 124)), none⟩])
  .ret)))
def c9T3 : ICode := b9T3
theorem w9T3 : W x Q c9T3 ks fr H ms = W x Q b9T3 ks fr H ms := rfl
/- live: [0, 1, 2, 8, 13, 14, 79, 80, 81] -/
abbrev b9L2 : ICode :=
  (.seq (.ops [⟨(some 82), (.bin .lss (.t 81) (.t 80)), none⟩])
  (.seq (.cond (.t 82)
    .skip
    (.exit 2))
  (.seq (.block 3 (.seq (.ops [⟨(some 83), (.ixS 1 (.t 79) (.t 81)), none⟩,
    ⟨(some 84), (.load false 1 (.t 83)), none⟩,
    ⟨(some 16), (.mv (.t 84)), none⟩])
  (.seq (.seq (.ops [⟨(some 85), (.mv (.t 16)), none⟩,
    ⟨(some 86), (.len (.t 85)), none⟩,
    ⟨(some 87), (.mv (.t 0)), none⟩,
    ⟨(some 88), (.ixS 1 (.t 87) (.k (I 0))), none⟩,
    ⟨(some 89), (.load false 1 (.t 88)), none⟩,
    ⟨(some 90), (.len (.t 89)), none⟩,
    ⟨(some 91), (.bin .neq (.t 86) (.t 90)), none⟩])
  (.cond (.t 91)
    (.seq (.ops [⟨(some 6), (.mv (.k (B false))), none⟩])
    .ret)
    .skip))
  (.seq (.ops [⟨(some 92), (.mv (.t 16)), none⟩,
    ⟨(some 93), (.call (.k (.fn (.func 38) [] [])) [(.t 92)]), none⟩,
    ⟨(some 17), (.mv (.t 93)), none⟩])
  (.seq (.draw 0 [] (.early 1 ⟨(some 94), (.mv (.t 17)), none⟩
    (.early 1 ⟨(some 95), (.mv (.t 1)), none⟩
    (.early 2 ⟨(some 96), (.mv (.t 17)), none⟩
    (.early 2 ⟨(some 97), (.mv (.t 2)), none⟩
    (.early 1 ⟨(some 98), (.mv (.t 17)), none⟩
    (.early 1 ⟨(some 99), (.mv (.t 2)), none⟩
    (.early 1 ⟨(some 100), (.ixS 1 (.t 98) (.t 99)), none⟩
    (.early 1 ⟨(some 101), (.load false 1 (.t 100)), none⟩
    (.early 1 ⟨(some 102), (.mv (.t 17)), none⟩
    (.early 1 ⟨(some 103), (.mv (.t 1)), none⟩
    (.early 1 ⟨(some 104), (.ixS 1 (.t 102) (.t 103)), none⟩
    (.early 1 ⟨(some 105), (.load false 1 (.t 104)), none⟩
    (.early 1 ⟨(some 106), (.ixS 1 (.t 94) (.t 95)), none⟩
    (.step 0 1 ⟨none, (.store 1 (.t 106) (.t 101)), none⟩
    (.early 0 ⟨(some 107), (.ixS 1 (.t 96) (.t 97)), none⟩
    (.step 0 0 ⟨none, (.store 1 (.t 107) (.t 105)), none⟩
    .done)))))))))))))))))
  (.keep [0, 1, 2, 8, 13, 14, 17, 79, 80, 81] (.ops [⟨(some 108), (.mv (.t 14)), none⟩,
    ⟨(some 109), (.mv (.t 17)), none⟩,
    ⟨(some 110), (.bslice 1 1 [nilSl] [(0, 1, (.t 109))]), none⟩,
    ⟨(some 111), (.append 1 24 (.t 108) (.t 110)), none⟩,
    ⟨(some 14), (.mv (.t 111)), none⟩])))))))
  (.ops [⟨(some 112), (.bin .add (.t 81) (.k (I 1))), none⟩,
    ⟨(some 81), (.mv (.t 112)), none⟩]))))
def c9L2 : ICode := b9L2
theorem w9L2 : W x Q c9L2 ks fr H ms = W x Q b9L2 ks fr H ms := rfl
abbrev b9T1 : ICode :=
  (.keep [0, 1, 2, 7, 10] (.seq (.ops [⟨(some 75), (.mv (.t 10)), none⟩,
    ⟨(some 76), (.call (.k (.fn (.func 39) [] [])) [(.t 75)]), none⟩,
    ⟨(some 74), (.mv (.t 76)), none⟩,
    ⟨(some 77), (.ext (.t 74) 0), none⟩,
    ⟨(some 78), (.ext (.t 74) 1), none⟩,
    ⟨(some 13), (.mv (.t 77)), none⟩,
    ⟨(some 8), (.mv (.t 78)), none⟩])
  (.seq (.ops [⟨(some 14), (.mv (.k nilSl)), none⟩])
  (.seq (.seq (.ops [⟨(some 79), (.mv (.t 7)), none⟩,
    ⟨(some 80), (.len (.t 79)), none⟩,
    ⟨(some 81), (.mv (.k (I 0))), none⟩])
  (.block 2 (.loop c9L2)))
  c9T3))))
def c9T1 : ICode := b9T1
theorem w9T1 : W x Q c9T1 ks fr H ms = W x Q b9T1 ks fr H ms := rfl
/- live: [0, 1, 2, 7, 10, 53, 54, 55] -/
abbrev b9L0 : ICode :=
  (.seq (.ops [⟨(some 56), (.bin .lss (.t 55) (.t 54)), none⟩])
  (.seq (.cond (.t 56)
    .skip
    (.exit 0))
  (.seq (.block 1 (.seq (.ops [⟨(some 57), (.ixS 1 (.t 53) (.t 55)), none⟩,
    ⟨(some 58), (.load false 1 (.t 57)), none⟩,
    ⟨(some 12), (.mv (.t 58)), none⟩])
  (.draw 0 [] (.early 1 ⟨(some 59), (.mv (.t 12)), none⟩
    (.early 1 ⟨(some 60), (.mv (.t 1)), none⟩
    (.early 2 ⟨(some 61), (.mv (.t 12)), none⟩
    (.early 2 ⟨(some 62), (.mv (.t 2)), none⟩
    (.early 1 ⟨(some 63), (.mv (.t 12)), none⟩
    (.early 1 ⟨(some 64), (.mv (.t 2)), none⟩
    (.early 1 ⟨(some 65), (.ixS 1 (.t 63) (.t 64)), none⟩
    (.early 1 ⟨(some 66), (.load false 1 (.t 65)), none⟩
    (.early 1 ⟨(some 67), (.mv (.t 12)), none⟩
    (.early 1 ⟨(some 68), (.mv (.t 1)), none⟩
    (.early 1 ⟨(some 69), (.ixS 1 (.t 67) (.t 68)), none⟩
    (.early 1 ⟨(some 70), (.load false 1 (.t 69)), none⟩
    (.early 1 ⟨(some 71), (.ixS 1 (.t 59) (.t 60)), none⟩
    (.step 0 1 ⟨none, (.store 1 (.t 71) (.t 66)), none⟩
    (.early 0 ⟨(some 72), (.ixS 1 (.t 61) (.t 62)), none⟩
    (.step 0 0 ⟨none, (.store 1 (.t 72) (.t 70)), none⟩
    .done)))))))))))))))))))
  (.ops [⟨(some 73), (.bin .add (.t 55) (.k (I 1))), none⟩,
    ⟨(some 55), (.mv (.t 73)), none⟩]))))
def c9L0 : ICode := b9L0
theorem w9L0 : W x Q c9L0 ks fr H ms = W x Q b9L0 ks fr H ms := rfl
abbrev b9 : ICode :=
  (.seq (.ops [⟨(some 6), (.mv (.k (B false))), none⟩])
  (.seq (.ops [⟨(some 19), (.mv (.t 0)), none⟩,
    ⟨(some 20), (.call (.k (.fn (.func 18) [] [])) [(.t 19)]), none⟩,
    ⟨(some 21), (.call (.k (.fn (.func 39) [] [])) [(.t 20)]), none⟩,
    ⟨(some 18), (.mv (.t 21)), none⟩,
    ⟨(some 22), (.ext (.t 18) 0), none⟩,
    ⟨(some 23), (.ext (.t 18) 1), none⟩,
    ⟨(some 7), (.mv (.t 22)), none⟩,
    ⟨(some 8), (.mv (.t 23)), none⟩])
  (.seq (.seq (.ops [⟨(some 24), (.mv (.t 8)), none⟩,
    ⟨(some 25), (.bin .neq (.t 24) (.k (I 0))), none⟩,
    ⟨(some 26), (.mv (.t 25)), none⟩,
    ⟨(some 27), (.mv (.t 0)), (some (26, false))⟩,
    ⟨(some 28), (.call (.k (.fn (.func 40) [] [])) [(.t 27)]), (some (26, false))⟩,
    ⟨(some 29), (.un .not (.t 28)), (some (26, false))⟩,
    ⟨(some 30), (.pick (.t 26) (.k (B true)) (.t 29)), none⟩])
  (.cond (.t 30)
    (.seq (.ops [⟨(some 31), (.mv (.t 8)), none⟩,
      ⟨(some 32), (.bin .eql (.t 31) (.k (I 2))), none⟩,
      ⟨(some 33), (.mv (.t 32)), none⟩,
      ⟨(some 34), (.call (.k (.fn (.func 25) [] [])) []), (some (33, true))⟩,
      ⟨(some 35), (.pick (.t 33) (.t 34) (.k (B false))), none⟩,
      ⟨(some 6), (.mv (.t 35)), none⟩])
    .ret)
    .skip))
  (.seq (.ops [⟨(some 36), (.mv (.t 0)), none⟩,
    ⟨(some 37), (.ixS 1 (.t 36) (.k (I 0))), none⟩,
    ⟨(some 38), (.load false 1 (.t 37)), none⟩,
    ⟨(some 39), (.len (.t 38)), none⟩,
    ⟨(some 40), (.conv .u64 (.t 39)), none⟩,
    ⟨(some 9), (.mv (.t 40)), none⟩])
  (.seq (.draw 0 [] (.early 1 ⟨(some 41), (.mv (.t 1)), none⟩
    (.early 1 ⟨(some 42), (.conv .u64 (.t 41)), none⟩
    (.early 1 ⟨(some 43), (.mv (.t 9)), none⟩
    (.early 1 ⟨(some 44), (.bin .rem (.t 42) (.t 43)), none⟩
    (.early 1 ⟨(some 45), (.conv .i64 (.t 44)), none⟩
    (.early 1 ⟨(some 46), (.mv (.t 2)), none⟩
    (.early 1 ⟨(some 47), (.conv .u64 (.t 46)), none⟩
    (.early 1 ⟨(some 48), (.mv (.t 9)), none⟩
    (.early 1 ⟨(some 49), (.bin .rem (.t 47) (.t 48)), none⟩
    (.early 1 ⟨(some 50), (.conv .i64 (.t 49)), none⟩
    (.early 1 ⟨(some 1), (.mv (.t 45)), none⟩
    (.early 0 ⟨(some 2), (.mv (.t 50)), none⟩
    .done)))))))))))))
  (.keep [0, 1, 2, 7] (.seq (.ops [⟨(some 51), (.mv (.t 0)), none⟩,
    ⟨(some 52), (.call (.k (.fn (.func 18) [] [])) [(.t 51)]), none⟩,
    ⟨(some 10), (.mv (.t 52)), none⟩])
  (.seq (.seq (.ops [⟨(some 53), (.mv (.t 10)), none⟩,
    ⟨(some 54), (.len (.t 53)), none⟩,
    ⟨(some 55), (.mv (.k (I 0))), none⟩])
  (.block 0 (.loop c9L0)))
  c9T1))))))))
def c9 : ICode := b9
theorem w9 : W x Q c9 ks fr H ms = W x Q b9 ks fr H ms := rfl
def r9 : List IRes := [(.tmp 6)]
theorem t9 : Try.f9.body.bind (trCode Try.prog Try.f9.ntmps) = some (strip c9) := by kernel_rfl
theorem q9 : trRes Try.prog Try.f9.results.toList = some r9 := by kernel_rfl
theorem fn9 : Try.prog.funcs[9]? = some Try.f9 := by kernel_rfl
theorem nn9 : (Try.f9.name == "runtime.NumGoroutine") = false := by kernel_rfl
theorem nt9 : Try.f9.ntmps = 125 := by kernel_rfl
abbrev b10 : ICode :=
  (.seq (.ops [⟨(some 2), (.mv (.k (B false))), none⟩])
  (.seq (.ops [⟨(some 8), (.mv (.t 0)), none⟩,
    ⟨(some 9), (.call (.k (.fn (.func 18) [] [])) [(.t 8)]), none⟩,
    ⟨(some 10), (.call (.k (.fn (.func 39) [] [])) [(.t 9)]), none⟩,
    ⟨(some 7), (.mv (.t 10)), none⟩,
    ⟨(some 11), (.ext (.t 7) 0), none⟩,
    ⟨(some 12), (.ext (.t 7) 1), none⟩,
    ⟨(some 3), (.mv (.t 11)), none⟩,
    ⟨(some 4), (.mv (.t 12)), none⟩])
  (.seq (.ops [⟨(some 14), (.mv (.t 0)), none⟩,
    ⟨(some 15), (.call (.k (.fn (.func 18) [] [])) [(.t 14)]), none⟩,
    ⟨(some 16), (.call (.k (.fn (.func 49) [] [])) [(.t 15)]), none⟩,
    ⟨(some 13), (.mv (.t 16)), none⟩,
    ⟨(some 17), (.ext (.t 13) 0), none⟩,
    ⟨(some 18), (.ext (.t 13) 1), none⟩,
    ⟨(some 5), (.mv (.t 17)), none⟩,
    ⟨(some 6), (.mv (.t 18)), none⟩])
  (.seq (.seq (.ops [⟨(some 19), (.mv (.t 0)), none⟩,
    ⟨(some 20), (.call (.k (.fn (.func 40) [] [])) [(.t 19)]), none⟩,
    ⟨(some 21), (.un .not (.t 20)), none⟩])
  (.cond (.t 21)
    (.seq (.ops [⟨(some 22), (.mv (.t 3)), none⟩,
      ⟨(some 23), (.len (.t 22)), none⟩,
      ⟨(some 24), (.mv (.t 5)), none⟩,
      ⟨(some 25), (.len (.t 24)), none⟩,
      ⟨(some 26), (.bin .add (.t 23) (.t 25)), none⟩,
      ⟨(some 27), (.bin .eql (.t 26) (.k (I 0))), none⟩,
      ⟨(some 28), (.mv (.t 27)), none⟩,
      ⟨(some 29), (.mv (.t 4)), (some (28, true))⟩,
      ⟨(some 30), (.bin .eql (.t 29) (.k (I 2))), (some (28, true))⟩,
      ⟨(some 31), (.pick (.t 28) (.t 30) (.k (B false))), none⟩,
      ⟨(some 32), (.mv (.t 31)), none⟩,
      ⟨(some 33), (.mv (.t 6)), (some (32, true))⟩,
      ⟨(some 34), (.bin .eql (.t 33) (.k (I 2))), (some (32, true))⟩,
      ⟨(some 35), (.pick (.t 32) (.t 34) (.k (B false))), none⟩,
      ⟨(some 36), (.mv (.t 35)), none⟩,
      ⟨(some 37), (.call (.k (.fn (.func 25) [] [])) []), (some (36, true))⟩,
      ⟨(some 38), (.pick (.t 36) (.t 37) (.k (B false))), none⟩,
      ⟨(some 2), (.mv (.t 38)), none⟩])
    .ret)
    .skip))
  (.seq (.ops [⟨(some 39), (.mv (.t 3)), none⟩,
    ⟨(some 40), (.mv (.t 0)), none⟩,
    ⟨(some 41), (.call (.k (.fn (.func 50) [] [])) [(.t 40)]), none⟩,
    ⟨(some 42), (.call (.k (.fn (.func 48) [] [])) [(.t 39), (.t 41)]), none⟩,
    ⟨(some 43), (.mv (.t 42)), none⟩,
    ⟨(some 44), (.mv (.t 5)), (some (43, true))⟩,
    ⟨(some 45), (.mv (.t 0)), (some (43, true))⟩,
    ⟨(some 46), (.call (.k (.fn (.func 34) [] [])) [(.t 45)]), (some (43, true))⟩,
    ⟨(some 47), (.call (.k (.fn (.func 48) [] [])) [(.t 44), (.t 46)]), (some (43, true))⟩,
    ⟨(some 48), (.pick (.t 43) (.t 47) (.k (B false))), none⟩,
    ⟨(some 49), (.mv (.t 48)), none⟩,
    ⟨(some 50), (.mv (.t 4)), (some (49, true))⟩,
    ⟨(some 51), (.bin .eql (.t 50) (.k (I 0))), (some (49, true))⟩,
    ⟨(some 52), (.pick (.t 49) (.t 51) (.k (B false))), none⟩,
    ⟨(some 53), (.mv (.t 52)), none⟩,
    ⟨(some 54), (.mv (.t 6)), (some (53, true))⟩,
    ⟨(some 55), (.bin .eql (.t 54) (.k (I 0))), (some (53, true))⟩,
    ⟨(some 56), (.pick (.t 53) (.t 55) (.k (B false))), none⟩,
    ⟨(some 57), (.mv (.t 56)), none⟩,
    ⟨(some 58), (.call (.k (.fn (.func 25) [] [])) []), (some (57, true))⟩,
    ⟨(some 59), (.pick (.t 57) (.t 58) (.k (B false))), none⟩,
    ⟨(some 2), (.mv (.t 59)), none⟩])
  .ret)))))
def c10 : ICode := b10
theorem w10 : W x Q c10 ks fr H ms = W x Q b10 ks fr H ms := rfl
def r10 : List IRes := [(.tmp 2)]
theorem t10 : Try.f10.body.bind (trCode Try.prog Try.f10.ntmps) = some (strip c10) := by kernel_rfl
theorem q10 : trRes Try.prog Try.f10.results.toList = some r10 := by kernel_rfl
theorem fn10 : Try.prog.funcs[10]? = some Try.f10 := by kernel_rfl
theorem nn10 : (Try.f10.name == "runtime.NumGoroutine") = false := by kernel_rfl
theorem nt10 : Try.f10.ntmps = 60 := by kernel_rfl
abbrev b11T3 : ICode :=
  (.keep [] (.seq (.ops [⟨(some 105), (.call (.k (.fn (.func 25) [] [])) []), none⟩,
    ⟨(some 4), (.mv (.t 105)), none⟩])
  .ret))
def c11T3 : ICode := b11T3
theorem w11T3 : W x Q c11T3 ks fr H ms = W x Q b11T3 ks fr H ms := rfl
/- live: [7, 94, 95, 96] -/
abbrev b11L2 : ICode :=
  (.seq (.ops [⟨(some 97), (.bin .lss (.t 96) (.t 95)), none⟩])
  (.seq (.cond (.t 97)
    .skip
    (.exit 2))
  (.seq (.block 3 (.seq (.ops [⟨(some 98), (.ixS 1 (.t 94) (.t 96)), none⟩,
    ⟨(some 99), (.load false 1 (.t 98)), none⟩,
    ⟨(some 14), (.alloc [nilSl]), none⟩,
    ⟨none, (.store 1 (.t 14) (.t 99)), none⟩])
  (.seq (.ops [⟨(some 100), (.mv (.t 7)), none⟩,
    ⟨(some 101), (.mkfn (.func 52) [] [(.t 14)]), none⟩,
    ⟨(some 102), (.call (.k (.fn (.func 44) [] [])) [(.t 100), (.t 101)]), none⟩,
    ⟨(some 103), (.un .not (.t 102)), none⟩])
  (.cond (.t 103)
    (.seq (.ops [⟨(some 4), (.mv (.k (B false))), none⟩])
    .ret)
    .skip))))
  (.ops [⟨(some 104), (.bin .add (.t 96) (.k (I 1))), none⟩,
    ⟨(some 96), (.mv (.t 104)), none⟩]))))
def c11L2 : ICode := b11L2
theorem w11L2 : W x Q c11L2 ks fr H ms = W x Q b11L2 ks fr H ms := rfl
abbrev b11T1 : ICode :=
  (.keep [0, 1, 7, 9] (.seq (.seq (.ops [⟨(some 61), (.mv (.t 7)), none⟩,
    ⟨(some 62), (.mv (.t 9)), none⟩,
    ⟨(some 63), (.call (.k (.fn (.func 48) [] [])) [(.t 61), (.t 62)]), none⟩,
    ⟨(some 64), (.un .not (.t 63)), none⟩])
  (.cond (.t 64)
    (.seq (.ops [⟨(some 4), (.mv (.k (B false))), none⟩])
    .ret)
    .skip))
  (.seq (.ops [⟨(some 66), (.mv (.t 0)), none⟩,
    ⟨(some 67), (.call (.k (.fn (.func 18) [] [])) [(.t 66)]), none⟩,
    ⟨(some 68), (.mv (.t 1)), none⟩,
    ⟨(some 69), (.call (.k (.fn (.func 19) [] [])) [(.t 68)]), none⟩,
    ⟨(some 70), (.call (.k (.fn (.func 51) [] [])) [(.t 67), (.t 69)]), none⟩,
    ⟨(some 65), (.mv (.t 70)), none⟩,
    ⟨(some 71), (.ext (.t 65) 0), none⟩,
    ⟨(some 72), (.ext (.t 65) 1), none⟩,
    ⟨(some 12), (.mv (.t 71)), none⟩,
    ⟨(some 6), (.mv (.t 72)), none⟩])
  (.seq (.seq (.ops [⟨(some 73), (.mv (.t 6)), none⟩,
    ⟨(some 74), (.bin .neq (.t 73) (.k (I 0))), none⟩,
    ⟨(some 75), (.mv (.t 74)), none⟩,
    ⟨(some 76), (.mv (.t 0)), (some (75, false))⟩,
    ⟨(some 77), (.mv (.t 1)), (some (75, false))⟩,
    ⟨(some 78), (.call (.k (.fn (.func 21) [] [])) [(.t 76), (.t 77), (.k (I 0)), (.k (I 100))]), (some (75, false))⟩,
    ⟨(some 79), (.un .not (.t 78)), (some (75, false))⟩,
    ⟨(some 80), (.pick (.t 75) (.k (B true)) (.t 79)), none⟩])
  (.cond (.t 80)
    (.seq (.ops [⟨(some 81), (.mv (.t 6)), none⟩,
      ⟨(some 82), (.bin .eql (.t 81) (.k (I 0))), none⟩,
      ⟨(some 83), (.mv (.t 82)), none⟩,
      ⟨(some 84), (.mv (.t 6)), (some (83, false))⟩,
      ⟨(some 85), (.bin .eql (.t 84) (.k (I 2))), (some (83, false))⟩,
      ⟨(some 86), (.pick (.t 83) (.k (B true)) (.t 85)), none⟩,
      ⟨(some 87), (.mv (.t 86)), none⟩,
      ⟨(some 88), (.mv (.t 6)), (some (87, false))⟩,
      ⟨(some 89), (.bin .eql (.t 88) (.k (I 4))), (some (87, false))⟩,
      ⟨(some 90), (.pick (.t 87) (.k (B true)) (.t 89)), none⟩,
      ⟨(some 91), (.mv (.t 90)), none⟩,
      ⟨(some 92), (.call (.k (.fn (.func 25) [] [])) []), (some (91, true))⟩,
      ⟨(some 93), (.pick (.t 91) (.t 92) (.k (B false))), none⟩,
      ⟨(some 4), (.mv (.t 93)), none⟩])
    .ret)
    .skip))
  (.seq (.seq (.ops [⟨(some 94), (.mv (.t 12)), none⟩,
    ⟨(some 95), (.len (.t 94)), none⟩,
    ⟨(some 96), (.mv (.k (I 0))), none⟩])
  (.block 2 (.loop c11L2)))
  c11T3)))))
def c11T1 : ICode := b11T1
theorem w11T1 : W x Q c11T1 ks fr H ms = W x Q b11T1 ks fr H ms := rfl
/- live: [0, 1, 7, 9, 48, 49, 50] -/
abbrev b11L0 : ICode :=
  (.seq (.ops [⟨(some 51), (.bin .lss (.t 50) (.t 49)), none⟩])
  (.seq (.cond (.t 51)
    .skip
    (.exit 0))
  (.seq (.block 1 (.seq (.ops [⟨(some 52), (.ixS 1 (.t 48) (.t 50)), none⟩,
    ⟨(some 53), (.load false 1 (.t 52)), none⟩,
    ⟨(some 11), (.mv (.t 53)), none⟩])
  (.seq (.ops [⟨(some 54), (.mv (.t 11)), none⟩,
    ⟨(some 55), (.call (.k (.fn (.func 24) [] [])) [(.t 54), (.k (I 0)), (.k (I 1000))]), none⟩])
  (.cond (.t 55)
    (.ops [⟨(some 56), (.mv (.t 9)), none⟩,
      ⟨(some 57), (.mv (.t 11)), none⟩,
      ⟨(some 58), (.bslice 1 1 [nilSl] [(0, 1, (.t 57))]), none⟩,
      ⟨(some 59), (.append 1 24 (.t 56) (.t 58)), none⟩,
      ⟨(some 9), (.mv (.t 59)), none⟩])
    .skip))))
  (.ops [⟨(some 60), (.bin .add (.t 50) (.k (I 1))), none⟩,
    ⟨(some 50), (.mv (.t 60)), none⟩]))))
def c11L0 : ICode := b11L0
theorem w11L0 : W x Q c11L0 ks fr H ms = W x Q b11L0 ks fr H ms := rfl
abbrev b11 : ICode :=
  (.seq (.ops [⟨(some 4), (.mv (.k (B false))), none⟩])
  (.seq (.ops [⟨(some 16), (.mv (.t 0)), none⟩,
    ⟨(some 17), (.call (.k (.fn (.func 18) [] [])) [(.t 16)]), none⟩,
    ⟨(some 18), (.call (.k (.fn (.func 39) [] [])) [(.t 17)]), none⟩,
    ⟨(some 15), (.mv (.t 18)), none⟩,
    ⟨(some 19), (.ext (.t 15) 0), none⟩,
    ⟨(some 20), (.ext (.t 15) 1), none⟩,
    ⟨(some 5), (.mv (.t 19)), none⟩,
    ⟨(some 6), (.mv (.t 20)), none⟩])
  (.seq (.ops [⟨(some 22), (.mv (.t 0)), none⟩,
    ⟨(some 23), (.call (.k (.fn (.func 18) [] [])) [(.t 22)]), none⟩,
    ⟨(some 24), (.call (.k (.fn (.func 49) [] [])) [(.t 23)]), none⟩,
    ⟨(some 21), (.mv (.t 24)), none⟩,
    ⟨(some 25), (.ext (.t 21) 0), none⟩,
    ⟨(some 26), (.ext (.t 21) 1), none⟩,
    ⟨(some 7), (.mv (.t 25)), none⟩,
    ⟨(some 8), (.mv (.t 26)), none⟩])
  (.seq (.seq (.ops [⟨(some 27), (.mv (.t 6)), none⟩,
    ⟨(some 28), (.bin .neq (.t 27) (.k (I 0))), none⟩,
    ⟨(some 29), (.mv (.t 28)), none⟩,
    ⟨(some 30), (.mv (.t 8)), (some (29, false))⟩,
    ⟨(some 31), (.bin .neq (.t 30) (.k (I 0))), (some (29, false))⟩,
    ⟨(some 32), (.pick (.t 29) (.k (B true)) (.t 31)), none⟩,
    ⟨(some 33), (.mv (.t 32)), none⟩,
    ⟨(some 34), (.mv (.t 0)), (some (33, false))⟩,
    ⟨(some 35), (.call (.k (.fn (.func 40) [] [])) [(.t 34)]), (some (33, false))⟩,
    ⟨(some 36), (.un .not (.t 35)), (some (33, false))⟩,
    ⟨(some 37), (.pick (.t 33) (.k (B true)) (.t 36)), none⟩])
  (.cond (.t 37)
    (.seq (.ops [⟨(some 38), (.mv (.t 6)), none⟩,
      ⟨(some 39), (.bin .eql (.t 38) (.k (I 2))), none⟩,
      ⟨(some 40), (.mv (.t 39)), none⟩,
      ⟨(some 41), (.mv (.t 8)), (some (40, true))⟩,
      ⟨(some 42), (.mv (.t 6)), (some (40, true))⟩,
      ⟨(some 43), (.bin .eql (.t 41) (.t 42)), (some (40, true))⟩,
      ⟨(some 44), (.pick (.t 40) (.t 43) (.k (B false))), none⟩,
      ⟨(some 45), (.mv (.t 44)), none⟩,
      ⟨(some 46), (.call (.k (.fn (.func 25) [] [])) []), (some (45, true))⟩,
      ⟨(some 47), (.pick (.t 45) (.t 46) (.k (B false))), none⟩,
      ⟨(some 4), (.mv (.t 47)), none⟩])
    .ret)
    .skip))
  (.seq (.ops [⟨(some 9), (.mv (.k nilSl)), none⟩])
  (.seq (.seq (.ops [⟨(some 48), (.mv (.t 5)), none⟩,
    ⟨(some 49), (.len (.t 48)), none⟩,
    ⟨(some 50), (.mv (.k (I 0))), none⟩])
  (.block 0 (.loop c11L0)))
  c11T1))))))
def c11 : ICode := b11
theorem w11 : W x Q c11 ks fr H ms = W x Q b11 ks fr H ms := rfl
def r11 : List IRes := [(.tmp 4)]
theorem t11 : Try.f11.body.bind (trCode Try.prog Try.f11.ntmps) = some (strip c11) := by kernel_rfl
theorem q11 : trRes Try.prog Try.f11.results.toList = some r11 := by kernel_rfl
theorem fn11 : Try.prog.funcs[11]? = some Try.f11 := by kernel_rfl
theorem nn11 : (Try.f11.name == "runtime.NumGoroutine") = false := by kernel_rfl
theorem nt11 : Try.f11.ntmps = 106 := by kernel_rfl
abbrev b12 : ICode :=
  (.seq (.ops [⟨(some 6), (.mv (.k (B false))), none⟩])
  (.seq (.ops [⟨(some 12), (.mv (.t 0)), none⟩,
    ⟨(some 13), (.call (.k (.fn (.func 18) [] [])) [(.t 12)]), none⟩,
    ⟨(some 14), (.mv (.t 1)), none⟩,
    ⟨(some 15), (.call (.k (.fn (.func 19) [] [])) [(.t 14)]), none⟩,
    ⟨(some 16), (.call (.k (.fn (.func 51) [] [])) [(.t 13), (.t 15)]), none⟩,
    ⟨(some 11), (.mv (.t 16)), none⟩,
    ⟨(some 17), (.ext (.t 11) 0), none⟩,
    ⟨(some 18), (.ext (.t 11) 1), none⟩,
    ⟨(some 7), (.mv (.t 17)), none⟩,
    ⟨(some 8), (.mv (.t 18)), none⟩])
  (.seq (.ops [⟨(some 20), (.mv (.t 0)), none⟩,
    ⟨(some 21), (.call (.k (.fn (.func 18) [] [])) [(.t 20)]), none⟩,
    ⟨(some 22), (.mv (.t 1)), none⟩,
    ⟨(some 23), (.call (.k (.fn (.func 19) [] [])) [(.t 22)]), none⟩,
    ⟨(some 24), (.mv (.t 2)), none⟩,
    ⟨(some 25), (.call (.k (.fn (.func 18) [] [])) [(.t 24)]), none⟩,
    ⟨(some 26), (.call (.k (.fn (.func 53) [] [])) [(.t 21), (.t 23), (.t 25)]), none⟩,
    ⟨(some 19), (.mv (.t 26)), none⟩,
    ⟨(some 27), (.ext (.t 19) 0), none⟩,
    ⟨(some 28), (.ext (.t 19) 1), none⟩,
    ⟨(some 9), (.mv (.t 27)), none⟩,
    ⟨(some 10), (.mv (.t 28)), none⟩])
  (.seq (.seq (.ops [⟨(some 29), (.mv (.t 0)), none⟩,
    ⟨(some 30), (.mv (.t 1)), none⟩,
    ⟨(some 31), (.call (.k (.fn (.func 21) [] [])) [(.t 29), (.t 30), (.k (I (-100))), (.k (I 100))]), none⟩,
    ⟨(some 32), (.un .not (.t 31)), none⟩])
  (.cond (.t 32)
    (.seq (.ops [⟨(some 33), (.mv (.t 7)), none⟩,
      ⟨(some 34), (.len (.t 33)), none⟩,
      ⟨(some 35), (.bin .eql (.t 34) (.k (I 0))), none⟩,
      ⟨(some 36), (.mv (.t 35)), none⟩,
      ⟨(some 37), (.mv (.t 9)), (some (36, true))⟩,
      ⟨(some 38), (.un .not (.t 37)), (some (36, true))⟩,
      ⟨(some 39), (.pick (.t 36) (.t 38) (.k (B false))), none⟩,
      ⟨(some 40), (.mv (.t 39)), none⟩,
      ⟨(some 41), (.mv (.t 8)), (some (40, true))⟩,
      ⟨(some 42), (.bin .eql (.t 41) (.k (I 2))), (some (40, true))⟩,
      ⟨(some 43), (.pick (.t 40) (.t 42) (.k (B false))), none⟩,
      ⟨(some 44), (.mv (.t 43)), none⟩,
      ⟨(some 45), (.mv (.t 10)), (some (44, true))⟩,
      ⟨(some 46), (.bin .eql (.t 45) (.k (I 2))), (some (44, true))⟩,
      ⟨(some 47), (.pick (.t 44) (.t 46) (.k (B false))), none⟩,
      ⟨(some 48), (.mv (.t 47)), none⟩,
      ⟨(some 49), (.call (.k (.fn (.func 25) [] [])) []), (some (48, true))⟩,
      ⟨(some 50), (.pick (.t 48) (.t 49) (.k (B false))), none⟩,
      ⟨(some 6), (.mv (.t 50)), none⟩])
    .ret)
    .skip))
  (.seq (.seq (.ops [⟨(some 51), (.mv (.t 0)), none⟩,
    ⟨(some 52), (.mv (.t 1)), none⟩,
    ⟨(some 53), (.call (.k (.fn (.func 54) [] [])) [(.t 51), (.t 52)]), none⟩,
    ⟨(some 54), (.un .not (.t 53)), none⟩])
  (.cond (.t 54)
    (.seq (.ops [⟨(some 55), (.mv (.t 7)), none⟩,
      ⟨(some 56), (.len (.t 55)), none⟩,
      ⟨(some 57), (.bin .neq (.t 56) (.k (I 0))), none⟩,
      ⟨(some 58), (.mv (.t 57)), none⟩,
      ⟨(some 59), (.mv (.t 8)), (some (58, false))⟩,
      ⟨(some 60), (.bin .neq (.t 59) (.k (I 4))), (some (58, false))⟩,
      ⟨(some 61), (.pick (.t 58) (.k (B true)) (.t 60)), none⟩])
    (.cond (.t 61)
      (.seq (.ops [⟨(some 6), (.mv (.k (B false))), none⟩])
      .ret)
      .skip))
    (.seq (.ops [⟨(some 62), (.mv (.t 8)), none⟩,
      ⟨(some 63), (.bin .neq (.t 62) (.k (I 0))), none⟩,
      ⟨(some 64), (.mv (.t 63)), none⟩,
      ⟨(some 65), (.mv (.t 0)), (some (64, false))⟩,
      ⟨(some 66), (.mv (.t 1)), (some (64, false))⟩,
      ⟨(some 67), (.mv (.t 7)), (some (64, false))⟩,
      ⟨(some 68), (.call (.k (.fn (.func 55) [] [])) [(.t 65), (.t 66), (.t 67)]), (some (64, false))⟩,
      ⟨(some 69), (.un .not (.t 68)), (some (64, false))⟩,
      ⟨(some 70), (.pick (.t 64) (.k (B true)) (.t 69)), none⟩])
    (.cond (.t 70)
      (.seq (.ops [⟨(some 6), (.mv (.k (B false))), none⟩])
      .ret)
      .skip))))
  (.seq (.ops [⟨(some 71), (.mv (.t 10)), none⟩,
    ⟨(some 72), (.bin .eql (.t 71) (.k (I 0))), none⟩,
    ⟨(some 73), (.mv (.t 72)), none⟩,
    ⟨(some 74), (.mv (.t 2)), (some (73, true))⟩,
    ⟨(some 75), (.len (.t 74)), (some (73, true))⟩,
    ⟨(some 76), (.bin .gtr (.t 75) (.k (I 250))), (some (73, true))⟩,
    ⟨(some 77), (.mv (.t 76)), (some (73, true))⟩,
    ⟨(some 78), (.mv (.t 9)), (some (77, false))⟩,
    ⟨(some 79), (.mv (.t 0)), (some (77, false))⟩,
    ⟨(some 80), (.mv (.t 1)), (some (77, false))⟩,
    ⟨(some 81), (.mv (.t 2)), (some (77, false))⟩,
    ⟨(some 82), (.call (.k (.fn (.func 55) [] [])) [(.t 79), (.t 80), (.t 81)]), (some (77, false))⟩,
    ⟨(some 83), (.eqb false (.t 78) (.t 82)), (some (77, false))⟩,
    ⟨(some 84), (.pick (.t 77) (.k (B true)) (.t 83)), (some (73, true))⟩,
    ⟨(some 85), (.pick (.t 73) (.t 84) (.k (B false))), none⟩,
    ⟨(some 86), (.mv (.t 85)), none⟩,
    ⟨(some 87), (.call (.k (.fn (.func 25) [] [])) []), (some (86, true))⟩,
    ⟨(some 88), (.pick (.t 86) (.t 87) (.k (B false))), none⟩,
    ⟨(some 6), (.mv (.t 88)), none⟩])
  .ret))))))
def c12 : ICode := b12
theorem w12 : W x Q c12 ks fr H ms = W x Q b12 ks fr H ms := rfl
def r12 : List IRes := [(.tmp 6)]
theorem t12 : Try.f12.body.bind (trCode Try.prog Try.f12.ntmps) = some (strip c12) := by kernel_rfl
theorem q12 : trRes Try.prog Try.f12.results.toList = some r12 := by kernel_rfl
theorem fn12 : Try.prog.funcs[12]? = some Try.f12 := by kernel_rfl
theorem nn12 : (Try.f12.name == "runtime.NumGoroutine") = false := by kernel_rfl
theorem nt12 : Try.f12.ntmps = 89 := by kernel_rfl
abbrev b13T3 : ICode :=
  (.keep [0, 1, 5, 10] (.seq (.ops [⟨(some 105), (.mv (.t 0)), none⟩,
    ⟨(some 106), (.call (.k (.fn (.func 18) [] [])) [(.t 105)]), none⟩,
    ⟨(some 107), (.mv (.t 1)), none⟩,
    ⟨(some 108), (.call (.k (.fn (.func 19) [] [])) [(.t 107)]), none⟩,
    ⟨(some 109), (.mv (.t 5)), none⟩,
    ⟨(some 110), (.call (.k (.fn (.func 18) [] [])) [(.t 109)]), none⟩,
    ⟨(some 111), (.call (.k (.fn (.func 53) [] [])) [(.t 106), (.t 108), (.t 110)]), none⟩,
    ⟨(some 104), (.mv (.t 111)), none⟩,
    ⟨(some 112), (.ext (.t 104) 0), none⟩,
    ⟨(some 113), (.ext (.t 104) 1), none⟩,
    ⟨(some 15), (.mv (.t 112)), none⟩,
    ⟨(some 8), (.mv (.t 113)), none⟩])
  (.seq (.ops [⟨(some 114), (.mv (.t 10)), none⟩,
    ⟨(some 115), (.mv (.t 1)), none⟩,
    ⟨(some 116), (.call (.k (.fn (.func 22) [] [])) [(.t 114), (.t 115)]), none⟩,
    ⟨(some 117), (.mv (.t 116)), none⟩,
    ⟨(some 118), (.mv (.t 8)), (some (117, true))⟩,
    ⟨(some 119), (.bin .eql (.t 118) (.k (I 0))), (some (117, true))⟩,
    ⟨(some 120), (.pick (.t 117) (.t 119) (.k (B false))), none⟩,
    ⟨(some 121), (.mv (.t 120)), none⟩,
    ⟨(some 122), (.mv (.t 15)), (some (121, true))⟩,
    ⟨(some 123), (.mv (.t 122)), (some (121, true))⟩,
    ⟨(some 124), (.mv (.t 5)), (some (123, false))⟩,
    ⟨(some 125), (.len (.t 124)), (some (123, false))⟩,
    ⟨(some 126), (.bin .gtr (.t 125) (.k (I 250))), (some (123, false))⟩,
    ⟨(some 127), (.pick (.t 123) (.k (B true)) (.t 126)), (some (121, true))⟩,
    ⟨(some 128), (.pick (.t 121) (.t 127) (.k (B false))), none⟩,
    ⟨(some 129), (.mv (.t 128)), none⟩,
    ⟨(some 130), (.call (.k (.fn (.func 25) [] [])) []), (some (129, true))⟩,
    ⟨(some 131), (.pick (.t 129) (.t 130) (.k (B false))), none⟩,
    ⟨(some 4), (.mv (.t 131)), none⟩])
  .ret)))
def c13T3 : ICode := b13T3
theorem w13T3 : W x Q c13T3 ks fr H ms = W x Q b13T3 ks fr H ms := rfl
abbrev b13T2 : ICode :=
  (.keep [0, 1, 5, 9, 10, 65, 66, 67] (.ops [⟨(some 103), (.bin .add (.t 67) (.k (I 1))), none⟩,
    ⟨(some 67), (.mv (.t 103)), none⟩]))
def c13T2 : ICode := b13T2
theorem w13T2 : W x Q c13T2 ks fr H ms = W x Q b13T2 ks fr H ms := rfl
/- live: [0, 1, 5, 9, 10, 65, 66, 67, 88, 89, 90] -/
abbrev b13L1 : ICode :=
  (.seq (.ops [⟨(some 91), (.bin .lss (.t 90) (.t 89)), none⟩])
  (.seq (.cond (.t 91)
    .skip
    (.exit 2))
  (.seq (.block 3 (.seq (.ops [⟨(some 92), (.mv (.t 90)), none⟩,
    ⟨(some 93), (.ixS 1 (.t 88) (.t 90)), none⟩,
    ⟨(some 94), (.load false 1 (.t 93)), none⟩,
    ⟨(some 13), (.mv (.t 92)), none⟩,
    ⟨(some 14), (.mv (.t 94)), none⟩])
  (.ops [⟨(some 95), (.mv (.t 10)), none⟩,
    ⟨(some 96), (.mv (.t 13)), none⟩,
    ⟨(some 97), (.ixS 1 (.t 95) (.t 96)), none⟩,
    ⟨(some 98), (.load false 1 (.t 97)), none⟩,
    ⟨(some 99), (.mv (.t 14)), none⟩,
    ⟨(some 100), (.bin .add (.t 98) (.t 99)), none⟩,
    ⟨(some 101), (.ixS 1 (.t 95) (.t 96)), none⟩,
    ⟨none, (.store 1 (.t 101) (.t 100)), none⟩])))
  (.ops [⟨(some 102), (.bin .add (.t 90) (.k (I 1))), none⟩,
    ⟨(some 90), (.mv (.t 102)), none⟩]))))
def c13L1 : ICode := b13L1
theorem w13L1 : W x Q c13L1 ks fr H ms = W x Q b13L1 ks fr H ms := rfl
/- live: [0, 1, 5, 9, 10, 65, 66, 67] -/
abbrev b13L0 : ICode :=
  (.seq (.ops [⟨(some 68), (.bin .lss (.t 67) (.t 66)), none⟩])
  (.seq (.cond (.t 68)
    .skip
    (.exit 0))
  (.seq (.block 1 (.seq (.ops [⟨(some 69), (.ixS 1 (.t 65) (.t 67)), none⟩,
    ⟨(some 70), (.load false 1 (.t 69)), none⟩,
    ⟨(some 12), (.alloc [nilSl]), none⟩,
    ⟨none, (.store 1 (.t 12) (.t 70)), none⟩])
  (.seq (.seq (.ops [⟨(some 71), (.load false 1 (.t 12)), none⟩,
    ⟨(some 72), (.len (.t 71)), none⟩,
    ⟨(some 73), (.mv (.t 1)), none⟩,
    ⟨(some 74), (.len (.t 73)), none⟩,
    ⟨(some 75), (.bin .neq (.t 72) (.t 74)), none⟩,
    ⟨(some 76), (.mv (.t 75)), none⟩,
    ⟨(some 77), (.load false 1 (.t 12)), (some (76, false))⟩,
    ⟨(some 78), (.mv (.t 1)), (some (76, false))⟩,
    ⟨(some 79), (.call (.k (.fn (.func 26) [] [])) [(.t 77), (.t 78)]), (some (76, false))⟩,
    ⟨(some 80), (.un .not (.t 79)), (some (76, false))⟩,
    ⟨(some 81), (.pick (.t 76) (.k (B true)) (.t 80)), none⟩,
    ⟨(some 82), (.mv (.t 81)), none⟩,
    ⟨(some 83), (.mv (.t 9)), (some (82, false))⟩,
    ⟨(some 84), (.mkfn (.func 57) [] [(.t 12)]), (some (82, false))⟩,
    ⟨(some 85), (.call (.k (.fn (.func 44) [] [])) [(.t 83), (.t 84)]), (some (82, false))⟩,
    ⟨(some 86), (.un .not (.t 85)), (some (82, false))⟩,
    ⟨(some 87), (.pick (.t 82) (.k (B true)) (.t 86)), none⟩])
  (.cond (.t 87)
    (.seq (.ops [⟨(some 4), (.mv (.k (B false))), none⟩])
    .ret)
    .skip))
  (.seq (.ops [⟨(some 88), (.load false 1 (.t 12)), none⟩,
    ⟨(some 89), (.len (.t 88)), none⟩,
    ⟨(some 90), (.mv (.k (I 0))), none⟩])
  (.block 2 (.loop c13L1))))))
  c13T2)))
def c13L0 : ICode := b13L0
theorem w13L0 : W x Q c13L0 ks fr H ms = W x Q b13L0 ks fr H ms := rfl
abbrev b13 : ICode :=
  (.seq (.ops [⟨(some 4), (.mv (.k (B false))), none⟩])
  (.seq (.ops [⟨(some 17), (.mv (.t 0)), none⟩,
    ⟨(some 18), (.call (.k (.fn (.func 18) [] [])) [(.t 17)]), none⟩,
    ⟨(some 19), (.mv (.t 1)), none⟩,
    ⟨(some 20), (.call (.k (.fn (.func 19) [] [])) [(.t 19)]), none⟩,
    ⟨(some 21), (.call (.k (.fn (.func 51) [] [])) [(.t 18), (.t 20)]), none⟩,
    ⟨(some 16), (.mv (.t 21)), none⟩,
    ⟨(some 22), (.ext (.t 16) 0), none⟩,
    ⟨(some 23), (.ext (.t 16) 1), none⟩,
    ⟨(some 5), (.mv (.t 22)), none⟩,
    ⟨(some 6), (.mv (.t 23)), none⟩])
  (.seq (.ops [⟨(some 25), (.mv (.t 0)), none⟩,
    ⟨(some 26), (.call (.k (.fn (.func 18) [] [])) [(.t 25)]), none⟩,
    ⟨(some 27), (.mv (.t 1)), none⟩,
    ⟨(some 28), (.call (.k (.fn (.func 19) [] [])) [(.t 27)]), none⟩,
    ⟨(some 29), (.call (.k (.fn (.func 17) [] [])) [(.t 26), (.t 28)]), none⟩,
    ⟨(some 24), (.mv (.t 29)), none⟩,
    ⟨(some 30), (.ext (.t 24) 0), none⟩,
    ⟨(some 31), (.ext (.t 24) 1), none⟩,
    ⟨(some 7), (.mv (.t 30)), none⟩,
    ⟨(some 8), (.mv (.t 31)), none⟩])
  (.seq (.seq (.ops [⟨(some 32), (.mv (.t 0)), none⟩,
    ⟨(some 33), (.mv (.t 1)), none⟩,
    ⟨(some 34), (.call (.k (.fn (.func 21) [] [])) [(.t 32), (.t 33), (.k (I (-100))), (.k (I 100))]), none⟩,
    ⟨(some 35), (.un .not (.t 34)), none⟩])
  (.cond (.t 35)
    (.seq (.ops [⟨(some 36), (.mv (.t 6)), none⟩,
      ⟨(some 37), (.bin .eql (.t 36) (.k (I 2))), none⟩,
      ⟨(some 38), (.mv (.t 37)), none⟩,
      ⟨(some 39), (.call (.k (.fn (.func 25) [] [])) []), (some (38, true))⟩,
      ⟨(some 40), (.pick (.t 38) (.t 39) (.k (B false))), none⟩,
      ⟨(some 4), (.mv (.t 40)), none⟩])
    .ret)
    .skip))
  (.seq (.seq (.ops [⟨(some 41), (.mv (.t 8)), none⟩,
    ⟨(some 42), (.bin .neq (.t 41) (.k (I 0))), none⟩])
  (.cond (.t 42)
    (.seq (.ops [⟨(some 4), (.mv (.k (B false))), none⟩])
    .ret)
    .skip))
  (.seq (.seq (.ops [⟨(some 43), (.mv (.t 7)), none⟩,
    ⟨(some 44), (.call (.k (.fn (.func 42) [] [])) [(.t 43), (.k (.fn (.func 56) [] []))]), none⟩])
  (.cond (.t 44)
    (.seq (.ops [⟨(some 45), (.mv (.t 6)), none⟩,
      ⟨(some 46), (.bin .eql (.t 45) (.k (I 4))), none⟩,
      ⟨(some 47), (.mv (.t 46)), none⟩,
      ⟨(some 48), (.call (.k (.fn (.func 25) [] [])) []), (some (47, true))⟩,
      ⟨(some 49), (.pick (.t 47) (.t 48) (.k (B false))), none⟩,
      ⟨(some 4), (.mv (.t 49)), none⟩])
    .ret)
    .skip))
  (.seq (.ops [⟨(some 51), (.mv (.t 0)), none⟩,
    ⟨(some 52), (.call (.k (.fn (.func 18) [] [])) [(.t 51)]), none⟩,
    ⟨(some 53), (.call (.k (.fn (.func 39) [] [])) [(.t 52)]), none⟩,
    ⟨(some 50), (.mv (.t 53)), none⟩,
    ⟨(some 54), (.ext (.t 50) 0), none⟩,
    ⟨(some 55), (.ext (.t 50) 1), none⟩,
    ⟨(some 9), (.mv (.t 54)), none⟩,
    ⟨(some 8), (.mv (.t 55)), none⟩])
  (.seq (.seq (.ops [⟨(some 56), (.mv (.t 6)), none⟩,
    ⟨(some 57), (.bin .neq (.t 56) (.k (I 0))), none⟩,
    ⟨(some 58), (.mv (.t 57)), none⟩,
    ⟨(some 59), (.mv (.t 8)), (some (58, false))⟩,
    ⟨(some 60), (.bin .neq (.t 59) (.k (I 0))), (some (58, false))⟩,
    ⟨(some 61), (.pick (.t 58) (.k (B true)) (.t 60)), none⟩])
  (.cond (.t 61)
    (.seq (.ops [⟨(some 4), (.mv (.k (B false))), none⟩])
    .ret)
    .skip))
  (.seq (.ops [⟨(some 62), (.mv (.t 1)), none⟩,
    ⟨(some 63), (.len (.t 62)), none⟩,
    ⟨(some 64), (.mksl 1 8 [(I 0)] (.t 63) (.t 63)), none⟩,
    ⟨(some 10), (.mv (.t 64)), none⟩])
  (.seq (.seq (.ops [⟨(some 65), (.mv (.t 5)), none⟩,
    ⟨(some 66), (.len (.t 65)), none⟩,
    ⟨(some 67), (.mv (.k (I 0))), none⟩])
  (.block 0 (.loop c13L0)))
  c13T3))))))))))
def c13 : ICode := b13
theorem w13 : W x Q c13 ks fr H ms = W x Q b13 ks fr H ms := rfl
def r13 : List IRes := [(.tmp 4)]
theorem t13 : Try.f13.body.bind (trCode Try.prog Try.f13.ntmps) = some (strip c13) := by kernel_rfl
theorem q13 : trRes Try.prog Try.f13.results.toList = some r13 := by kernel_rfl
theorem fn13 : Try.prog.funcs[13]? = some Try.f13 := by kernel_rfl
theorem nn13 : (Try.f13.name == "runtime.NumGoroutine") = false := by kernel_rfl
theorem nt13 : Try.f13.ntmps = 132 := by kernel_rfl
abbrev b42 : ICode :=
  (.seq (.ops [⟨(some 4), (.mv (.k (B false))), none⟩])
  (.seq (.ops [⟨(some 5), (.mv (.t 0)), none⟩,
    ⟨(some 6), (.mv (.t 1)), none⟩,
    ⟨(some 7), (.call (.k (.fn (.func 87) [] [])) [(.t 5), (.t 6)]), none⟩,
    ⟨(some 8), (.bin .geq (.t 7) (.k (I 0))), none⟩,
    ⟨(some 4), (.mv (.t 8)), none⟩])
  .ret))
def c42 : ICode := b42
theorem w42 : W x Q c42 ks fr H ms = W x Q b42 ks fr H ms := rfl
def r42 : List IRes := [(.tmp 4)]
theorem t42 : Try.f42.body.bind (trCode Try.prog Try.f42.ntmps) = some (strip c42) := by kernel_rfl
theorem q42 : trRes Try.prog Try.f42.results.toList = some r42 := by kernel_rfl
theorem fn42 : Try.prog.funcs[42]? = some Try.f42 := by kernel_rfl
theorem nn42 : (Try.f42.name == "runtime.NumGoroutine") = false := by kernel_rfl
theorem nt42 : Try.f42.ntmps = 9 := by kernel_rfl
abbrev b43 : ICode :=
  (.seq (.ops [⟨(some 2), (.mv (.k (B false))), none⟩])
  (.seq (.ops [⟨(some 3), (.mv (.t 0)), none⟩,
    ⟨(some 4), (.bin .neq (.t 3) (.k (I 0))), none⟩,
    ⟨(some 2), (.mv (.t 4)), none⟩])
  .ret))
def c43 : ICode := b43
theorem w43 : W x Q c43 ks fr H ms = W x Q b43 ks fr H ms := rfl
def r43 : List IRes := [(.tmp 2)]
theorem t43 : Try.f43.body.bind (trCode Try.prog Try.f43.ntmps) = some (strip c43) := by kernel_rfl
theorem q43 : trRes Try.prog Try.f43.results.toList = some r43 := by kernel_rfl
theorem fn43 : Try.prog.funcs[43]? = some Try.f43 := by kernel_rfl
theorem nn43 : (Try.f43.name == "runtime.NumGoroutine") = false := by kernel_rfl
theorem nt43 : Try.f43.ntmps = 5 := by kernel_rfl
abbrev b44 : ICode :=
  (.seq (.ops [⟨(some 4), (.mv (.k (B false))), none⟩])
  (.seq (.ops [⟨(some 5), (.mv (.t 0)), none⟩,
    ⟨(some 6), (.mv (.t 1)), none⟩,
    ⟨(some 7), (.call (.k (.fn (.func 88) [] [])) [(.t 5), (.t 6)]), none⟩,
    ⟨(some 8), (.bin .geq (.t 7) (.k (I 0))), none⟩,
    ⟨(some 4), (.mv (.t 8)), none⟩])
  .ret))
def c44 : ICode := b44
theorem w44 : W x Q c44 ks fr H ms = W x Q b44 ks fr H ms := rfl
def r44 : List IRes := [(.tmp 4)]
theorem t44 : Try.f44.body.bind (trCode Try.prog Try.f44.ntmps) = some (strip c44) := by kernel_rfl
theorem q44 : trRes Try.prog Try.f44.results.toList = some r44 := by kernel_rfl
theorem fn44 : Try.prog.funcs[44]? = some Try.f44 := by kernel_rfl
theorem nn44 : (Try.f44.name == "runtime.NumGoroutine") = false := by kernel_rfl
theorem nt44 : Try.f44.ntmps = 9 := by kernel_rfl
abbrev b45 : ICode :=
  (.seq (.ops [⟨(some 3), (.mv (.k (B false))), none⟩])
  (.seq (.ops [⟨(some 4), (.mv (.t 0)), none⟩,
    ⟨(some 5), (.load false 1 (.t 1)), none⟩,
    ⟨(some 6), (.call (.k (.fn (.func 22) [] [])) [(.t 4), (.t 5)]), none⟩,
    ⟨(some 3), (.mv (.t 6)), none⟩])
  .ret))
def c45 : ICode := b45
theorem w45 : W x Q c45 ks fr H ms = W x Q b45 ks fr H ms := rfl
def r45 : List IRes := [(.tmp 3)]
theorem t45 : Try.f45.body.bind (trCode Try.prog Try.f45.ntmps) = some (strip c45) := by kernel_rfl
theorem q45 : trRes Try.prog Try.f45.results.toList = some r45 := by kernel_rfl
theorem fn45 : Try.prog.funcs[45]? = some Try.f45 := by kernel_rfl
theorem nn45 : (Try.f45.name == "runtime.NumGoroutine") = false := by kernel_rfl
theorem nt45 : Try.f45.ntmps = 7 := by kernel_rfl
abbrev b47 : ICode :=
  (.seq (.ops [⟨(some 4), (.mv (.k (I 0))), none⟩])
  (.seq (.ops [⟨(some 5), (.mv (.t 0)), none⟩,
    ⟨(some 6), (.mv (.t 1)), none⟩,
    ⟨(some 7), (.call (.k (.fn (.func 41) [] [])) [(.t 5), (.t 6)]), none⟩,
    ⟨(some 4), (.mv (.t 7)), none⟩])
  .ret))
def c47 : ICode := b47
theorem w47 : W x Q c47 ks fr H ms = W x Q b47 ks fr H ms := rfl
def r47 : List IRes := [(.tmp 4)]
theorem t47 : Try.f47.body.bind (trCode Try.prog Try.f47.ntmps) = some (strip c47) := by kernel_rfl
theorem q47 : trRes Try.prog Try.f47.results.toList = some r47 := by kernel_rfl
theorem fn47 : Try.prog.funcs[47]? = some Try.f47 := by kernel_rfl
theorem nn47 : (Try.f47.name == "runtime.NumGoroutine") = false := by kernel_rfl
theorem nt47 : Try.f47.ntmps = 8 := by kernel_rfl
abbrev b48 : ICode :=
  (.seq (.ops [⟨(some 4), (.mv (.k (B false))), none⟩])
  (.seq (.ops [⟨(some 5), (.mv (.t 0)), none⟩,
    ⟨(some 6), (.mv (.t 1)), none⟩,
    ⟨(some 7), (.call (.k (.fn (.func 91) [] [])) [(.t 5), (.t 6), (.k (.fn (.func 22) [] []))]), none⟩,
    ⟨(some 4), (.mv (.t 7)), none⟩])
  .ret))
def c48 : ICode := b48
theorem w48 : W x Q c48 ks fr H ms = W x Q b48 ks fr H ms := rfl
def r48 : List IRes := [(.tmp 4)]
theorem t48 : Try.f48.body.bind (trCode Try.prog Try.f48.ntmps) = some (strip c48) := by kernel_rfl
theorem q48 : trRes Try.prog Try.f48.results.toList = some r48 := by kernel_rfl
theorem fn48 : Try.prog.funcs[48]? = some Try.f48 := by kernel_rfl
theorem nn48 : (Try.f48.name == "runtime.NumGoroutine") = false := by kernel_rfl
theorem nt48 : Try.f48.ntmps = 8 := by kernel_rfl
abbrev b88T1 : ICode :=
  (.keep [] (.seq (.ops [⟨(some 4), (.mv (.k (I (-1)))), none⟩])
  .ret))
def c88T1 : ICode := b88T1
theorem w88T1 : W x Q c88T1 ks fr H ms = W x Q b88T1 ks fr H ms := rfl
/- live: [0, 1, 7, 8] -/
abbrev b88L0 : ICode :=
  (.seq (.ops [⟨(some 9), (.bin .lss (.t 8) (.t 7)), none⟩])
  (.seq (.cond (.t 9)
    .skip
    (.exit 0))
  (.seq (.block 1 (.seq (.ops [⟨(some 10), (.mv (.t 8)), none⟩,
    ⟨(some 5), (.mv (.t 10)), none⟩])
  (.seq (.ops [⟨(some 11), (.mv (.t 1)), none⟩,
    ⟨(some 12), (.mv (.t 0)), none⟩,
    ⟨(some 13), (.mv (.t 5)), none⟩,
    ⟨(some 14), (.ixS 1 (.t 12) (.t 13)), none⟩,
    ⟨(some 15), (.load false 1 (.t 14)), none⟩,
    ⟨(some 16), (.call (.t 11) [(.t 15)]), none⟩])
  (.cond (.t 16)
    (.seq (.ops [⟨(some 17), (.mv (.t 5)), none⟩,
      ⟨(some 4), (.mv (.t 17)), none⟩])
    .ret)
    .skip))))
  (.ops [⟨(some 18), (.bin .add (.t 8) (.k (I 1))), none⟩,
    ⟨(some 8), (.mv (.t 18)), none⟩]))))
def c88L0 : ICode := b88L0
theorem w88L0 : W x Q c88L0 ks fr H ms = W x Q b88L0 ks fr H ms := rfl
abbrev b88 : ICode :=
  (.seq (.ops [⟨(some 4), (.mv (.k (I 0))), none⟩])
  (.seq (.seq (.ops [⟨(some 6), (.mv (.t 0)), none⟩,
    ⟨(some 7), (.len (.t 6)), none⟩,
    ⟨(some 8), (.mv (.k (I 0))), none⟩])
  (.block 0 (.loop c88L0)))
  c88T1))
def c88 : ICode := b88
theorem w88 : W x Q c88 ks fr H ms = W x Q b88 ks fr H ms := rfl
def r88 : List IRes := [(.tmp 4)]
theorem t88 : Try.f88.body.bind (trCode Try.prog Try.f88.ntmps) = some (strip c88) := by kernel_rfl
theorem q88 : trRes Try.prog Try.f88.results.toList = some r88 := by kernel_rfl
theorem fn88 : Try.prog.funcs[88]? = some Try.f88 := by kernel_rfl
theorem nn88 : (Try.f88.name == "runtime.NumGoroutine") = false := by kernel_rfl
theorem nt88 : Try.f88.ntmps = 19 := by kernel_rfl
abbrev b91T1 : ICode :=
  (.keep [] (.seq (.ops [⟨(some 6), (.mv (.k (B true))), none⟩])
  .ret))
def c91T1 : ICode := b91T1
theorem w91T1 : W x Q c91T1 ks fr H ms = W x Q b91T1 ks fr H ms := rfl
/- live: [1, 2, 15, 16, 17] -/
abbrev b91L0 : ICode :=
  (.seq (.ops [⟨(some 18), (.bin .lss (.t 17) (.t 16)), none⟩])
  (.seq (.cond (.t 18)
    .skip
    (.exit 0))
  (.seq (.block 1 (.seq (.ops [⟨(some 19), (.mv (.t 17)), none⟩,
    ⟨(some 20), (.ixS 1 (.t 15) (.t 17)), none⟩,
    ⟨(some 21), (.load false 1 (.t 20)), none⟩,
    ⟨(some 7), (.mv (.t 19)), none⟩,
    ⟨(some 8), (.mv (.t 21)), none⟩])
  (.seq (.ops [⟨(some 22), (.mv (.t 1)), none⟩,
    ⟨(some 23), (.mv (.t 7)), none⟩,
    ⟨(some 24), (.ixS 1 (.t 22) (.t 23)), none⟩,
    ⟨(some 25), (.load false 1 (.t 24)), none⟩,
    ⟨(some 9), (.mv (.t 25)), none⟩])
  (.seq (.ops [⟨(some 26), (.mv (.t 2)), none⟩,
    ⟨(some 27), (.mv (.t 8)), none⟩,
    ⟨(some 28), (.mv (.t 9)), none⟩,
    ⟨(some 29), (.call (.t 26) [(.t 27), (.t 28)]), none⟩,
    ⟨(some 30), (.un .not (.t 29)), none⟩])
  (.cond (.t 30)
    (.seq (.ops [⟨(some 6), (.mv (.k (B false))), none⟩])
    .ret)
    .skip)))))
  (.ops [⟨(some 31), (.bin .add (.t 17) (.k (I 1))), none⟩,
    ⟨(some 17), (.mv (.t 31)), none⟩]))))
def c91L0 : ICode := b91L0
theorem w91L0 : W x Q c91L0 ks fr H ms = W x Q b91L0 ks fr H ms := rfl
abbrev b91 : ICode :=
  (.seq (.ops [⟨(some 6), (.mv (.k (B false))), none⟩])
  (.seq (.seq (.ops [⟨(some 10), (.mv (.t 0)), none⟩,
    ⟨(some 11), (.len (.t 10)), none⟩,
    ⟨(some 12), (.mv (.t 1)), none⟩,
    ⟨(some 13), (.len (.t 12)), none⟩,
    ⟨(some 14), (.bin .neq (.t 11) (.t 13)), none⟩])
  (.cond (.t 14)
    (.seq (.ops [⟨(some 6), (.mv (.k (B false))), none⟩])
    .ret)
    .skip))
  (.seq (.seq (.ops [⟨(some 15), (.mv (.t 0)), none⟩,
    ⟨(some 16), (.len (.t 15)), none⟩,
    ⟨(some 17), (.mv (.k (I 0))), none⟩])
  (.block 0 (.loop c91L0)))
  c91T1)))
def c91 : ICode := b91
theorem w91 : W x Q c91 ks fr H ms = W x Q b91 ks fr H ms := rfl
def r91 : List IRes := [(.tmp 6)]
theorem t91 : Try.f91.body.bind (trCode Try.prog Try.f91.ntmps) = some (strip c91) := by kernel_rfl
theorem q91 : trRes Try.prog Try.f91.results.toList = some r91 := by kernel_rfl
theorem fn91 : Try.prog.funcs[91]? = some Try.f91 := by kernel_rfl
theorem nn91 : (Try.f91.name == "runtime.NumGoroutine") = false := by kernel_rfl
theorem nt91 : Try.f91.ntmps = 32 := by kernel_rfl
end Go.Proofs.Ytipfjfmdjmaflaa
