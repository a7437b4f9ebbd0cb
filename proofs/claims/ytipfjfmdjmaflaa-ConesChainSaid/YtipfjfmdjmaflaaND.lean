/- The code of some functions of the program, cleaned: printed by a program of mine, checked here. -/
import Derived.Test.YtipfjfmdjmaflaaProg
import Derived.Test.YtipfjfmdjmaflaaAS
import Derived.KernelRfl
import Derived.Test.YtipfjfmdjmaflaaKA
namespace Go.Proofs.Ytipfjfmdjmaflaa
open Go.Abs AVal
variable {x : Cx} {Q : QT} {ks : List Kont} {fr : Fr} {H : AHeap} {ms : List Nat}
abbrev b6 : ICode :=
  (.seq (.ops [⟨(some 6), (.mv (.k (B false))), none⟩])
  (.seq (.ops [⟨(some 15), (.mv (.t 0)), none⟩,
    ⟨(some 16), (.call (.k (.fn (.func 18) [] [])) [(.t 15)]), none⟩,
    ⟨(some 17), (.mv (.t 1)), none⟩,
    ⟨(some 18), (.call (.k (.fn (.func 19) [] [])) [(.t 17)]), none⟩,
    ⟨(some 19), (.mv (.t 2)), none⟩,
    ⟨(some 20), (.call (.k (.fn (.func 19) [] [])) [(.t 19)]), none⟩,
    ⟨(some 21), (.call (.k (.fn (.func 32) [] [])) [(.t 16), (.t 18), (.t 20)]), none⟩,
    ⟨(some 14), (.mv (.t 21)), none⟩,
    ⟨(some 22), (.ext (.t 14) 0), none⟩,
    ⟨(some 23), (.ext (.t 14) 1), none⟩,
    ⟨(some 7), (.mv (.t 22)), none⟩,
    ⟨(some 8), (.mv (.t 23)), none⟩])
  (.seq (.ops [⟨(some 25), (.mv (.t 0)), none⟩,
    ⟨(some 26), (.call (.k (.fn (.func 18) [] [])) [(.t 25)]), none⟩,
    ⟨(some 27), (.mv (.t 1)), none⟩,
    ⟨(some 28), (.call (.k (.fn (.func 19) [] [])) [(.t 27)]), none⟩,
    ⟨(some 29), (.mv (.t 2)), none⟩,
    ⟨(some 30), (.call (.k (.fn (.func 19) [] [])) [(.t 29)]), none⟩,
    ⟨(some 31), (.call (.k (.fn (.func 33) [] [])) [(.t 26), (.t 28), (.t 30)]), none⟩,
    ⟨(some 24), (.mv (.t 31)), none⟩,
    ⟨(some 32), (.ext (.t 24) 0), none⟩,
    ⟨(some 33), (.ext (.t 24) 1), none⟩,
    ⟨(some 9), (.mv (.t 32)), none⟩,
    ⟨(some 10), (.mv (.t 33)), none⟩])
  (.seq (.seq (.ops [⟨(some 34), (.mv (.t 0)), none⟩,
    ⟨(some 35), (.mv (.t 1)), none⟩,
    ⟨(some 36), (.call (.k (.fn (.func 21) [] [])) [(.t 34), (.t 35), (.k (I 0)), (.k (I 1000))]), none⟩,
    ⟨(some 37), (.un .not (.t 36)), none⟩,
    ⟨(some 38), (.mv (.t 37)), none⟩,
    ⟨(some 39), (.mv (.t 0)), (some (38, false))⟩,
    ⟨(some 40), (.mv (.t 2)), (some (38, false))⟩,
    ⟨(some 41), (.call (.k (.fn (.func 21) [] [])) [(.t 39), (.t 40), (.k (I (-9))), (.k (I 9))]), (some (38, false))⟩,
    ⟨(some 42), (.un .not (.t 41)), (some (38, false))⟩,
    ⟨(some 43), (.pick (.t 38) (.k (B true)) (.t 42)), none⟩])
  (.cond (.t 43)
    (.seq (.ops [⟨(some 44), (.mv (.t 7)), none⟩,
      ⟨(some 45), (.bin .eql (.t 44) (.k (I 0))), none⟩,
      ⟨(some 46), (.mv (.t 45)), none⟩,
      ⟨(some 47), (.mv (.t 9)), (some (46, true))⟩,
      ⟨(some 48), (.len (.t 47)), (some (46, true))⟩,
      ⟨(some 49), (.bin .eql (.t 48) (.k (I 0))), (some (46, true))⟩,
      ⟨(some 50), (.pick (.t 46) (.t 49) (.k (B false))), none⟩,
      ⟨(some 51), (.mv (.t 50)), none⟩,
      ⟨(some 52), (.mv (.t 8)), (some (51, true))⟩,
      ⟨(some 53), (.bin .eql (.t 52) (.k (I 2))), (some (51, true))⟩,
      ⟨(some 54), (.pick (.t 51) (.t 53) (.k (B false))), none⟩,
      ⟨(some 55), (.mv (.t 54)), none⟩,
      ⟨(some 56), (.mv (.t 10)), (some (55, true))⟩,
      ⟨(some 57), (.bin .eql (.t 56) (.k (I 2))), (some (55, true))⟩,
      ⟨(some 58), (.pick (.t 55) (.t 57) (.k (B false))), none⟩,
      ⟨(some 59), (.mv (.t 58)), none⟩,
      ⟨(some 60), (.call (.k (.fn (.func 25) [] [])) []), (some (59, true))⟩,
      ⟨(some 61), (.pick (.t 59) (.t 60) (.k (B false))), none⟩,
      ⟨(some 6), (.mv (.t 61)), none⟩])
    .ret)
    .skip))
  (.seq (.ops [⟨(some 62), (.mv (.t 1)), none⟩,
    ⟨(some 63), (.call (.k (.fn (.func 24) [] [])) [(.t 62), (.k (I 0)), (.k (I 6))]), none⟩,
    ⟨(some 11), (.mv (.t 63)), none⟩])
  (.seq (.seq (.ops [⟨(some 64), (.mv (.t 11)), none⟩,
    ⟨(some 65), (.un .not (.t 64)), none⟩,
    ⟨(some 66), (.mv (.t 65)), none⟩,
    ⟨(some 67), (.mv (.t 7)), (some (66, true))⟩,
    ⟨(some 68), (.bin .neq (.t 67) (.k (I 0))), (some (66, true))⟩,
    ⟨(some 69), (.mv (.t 68)), (some (66, true))⟩,
    ⟨(some 70), (.mv (.t 8)), (some (69, false))⟩,
    ⟨(some 71), (.bin .neq (.t 70) (.k (I 2))), (some (69, false))⟩,
    ⟨(some 72), (.pick (.t 69) (.k (B true)) (.t 71)), (some (66, true))⟩,
    ⟨(some 73), (.pick (.t 66) (.t 72) (.k (B false))), none⟩])
  (.cond (.t 73)
    (.seq (.ops [⟨(some 6), (.mv (.k (B false))), none⟩])
    .ret)
    .skip))
  (.seq (.seq (.ops [⟨(some 74), (.mv (.t 0)), none⟩,
    ⟨(some 75), (.call (.k (.fn (.func 34) [] [])) [(.t 74)]), none⟩,
    ⟨(some 76), (.len (.t 75)), none⟩,
    ⟨(some 77), (.bin .gtr (.t 76) (.k (I 0))), none⟩])
  (.cond (.t 77)
    (.seq (.ops [⟨(some 78), (.mv (.t 7)), none⟩,
      ⟨(some 79), (.bin .eql (.t 78) (.k (I 0))), none⟩,
      ⟨(some 80), (.mv (.t 79)), none⟩,
      ⟨(some 81), (.mv (.t 9)), (some (80, true))⟩,
      ⟨(some 82), (.len (.t 81)), (some (80, true))⟩,
      ⟨(some 83), (.bin .eql (.t 82) (.k (I 0))), (some (80, true))⟩,
      ⟨(some 84), (.pick (.t 80) (.t 83) (.k (B false))), none⟩,
      ⟨(some 85), (.mv (.t 84)), none⟩,
      ⟨(some 86), (.mv (.t 11)), (some (85, true))⟩,
      ⟨(some 87), (.un .not (.t 86)), (some (85, true))⟩,
      ⟨(some 88), (.mv (.t 87)), (some (85, true))⟩,
      ⟨(some 89), (.mv (.t 8)), (some (88, false))⟩,
      ⟨(some 90), (.bin .eql (.t 89) (.k (I 5))), (some (88, false))⟩,
      ⟨(some 91), (.pick (.t 88) (.k (B true)) (.t 90)), (some (85, true))⟩,
      ⟨(some 92), (.pick (.t 85) (.t 91) (.k (B false))), none⟩,
      ⟨(some 93), (.mv (.t 92)), none⟩,
      ⟨(some 94), (.mv (.t 10)), (some (93, true))⟩,
      ⟨(some 95), (.bin .eql (.t 94) (.k (I 5))), (some (93, true))⟩,
      ⟨(some 96), (.pick (.t 93) (.t 95) (.k (B false))), none⟩,
      ⟨(some 97), (.mv (.t 96)), none⟩,
      ⟨(some 98), (.call (.k (.fn (.func 25) [] [])) []), (some (97, true))⟩,
      ⟨(some 99), (.pick (.t 97) (.t 98) (.k (B false))), none⟩,
      ⟨(some 6), (.mv (.t 99)), none⟩])
    .ret)
    .skip))
  (.seq (.ops [⟨(some 101), (.mv (.t 0)), none⟩,
    ⟨(some 102), (.mv (.t 1)), none⟩,
    ⟨(some 103), (.mv (.t 2)), none⟩,
    ⟨(some 104), (.call (.k (.fn (.func 35) [] [])) [(.t 101), (.t 102), (.t 103)]), none⟩,
    ⟨(some 100), (.mv (.t 104)), none⟩,
    ⟨(some 105), (.ext (.t 100) 0), none⟩,
    ⟨(some 106), (.ext (.t 100) 1), none⟩,
    ⟨(some 12), (.mv (.t 105)), none⟩,
    ⟨(some 13), (.mv (.t 106)), none⟩])
  (.seq (.ops [⟨(some 107), (.mv (.t 11)), none⟩,
    ⟨(some 108), (.un .not (.t 107)), none⟩,
    ⟨(some 109), (.mv (.t 108)), none⟩,
    ⟨(some 110), (.mv (.t 7)), (some (109, false))⟩,
    ⟨(some 111), (.mv (.t 0)), (some (109, false))⟩,
    ⟨(some 112), (.mv (.t 1)), (some (109, false))⟩,
    ⟨(some 113), (.mv (.t 2)), (some (109, false))⟩,
    ⟨(some 114), (.call (.k (.fn (.func 36) [] [])) [(.t 111), (.t 112), (.t 113)]), (some (109, false))⟩,
    ⟨(some 115), (.bin .eql (.t 110) (.t 114)), (some (109, false))⟩,
    ⟨(some 116), (.mv (.t 115)), (some (109, false))⟩,
    ⟨(some 117), (.mv (.t 8)), (some (116, true))⟩,
    ⟨(some 118), (.bin .eql (.t 117) (.k (I 0))), (some (116, true))⟩,
    ⟨(some 119), (.pick (.t 116) (.t 118) (.k (B false))), (some (109, false))⟩,
    ⟨(some 120), (.pick (.t 109) (.k (B true)) (.t 119)), none⟩,
    ⟨(some 121), (.mv (.t 120)), none⟩,
    ⟨(some 122), (.mv (.t 9)), (some (121, true))⟩,
    ⟨(some 123), (.mv (.t 12)), (some (121, true))⟩,
    ⟨(some 124), (.call (.k (.fn (.func 22) [] [])) [(.t 122), (.t 123)]), (some (121, true))⟩,
    ⟨(some 125), (.pick (.t 121) (.t 124) (.k (B false))), none⟩,
    ⟨(some 126), (.mv (.t 125)), none⟩,
    ⟨(some 127), (.mv (.t 10)), (some (126, true))⟩,
    ⟨(some 128), (.mv (.t 13)), (some (126, true))⟩,
    ⟨(some 129), (.bin .eql (.t 127) (.t 128)), (some (126, true))⟩,
    ⟨(some 130), (.pick (.t 126) (.t 129) (.k (B false))), none⟩,
    ⟨(some 131), (.mv (.t 130)), none⟩,
    ⟨(some 132), (.call (.k (.fn (.func 25) [] [])) []), (some (131, true))⟩,
    ⟨(some 133), (.pick (.t 131) (.t 132) (.k (B false))), none⟩,
    ⟨(some 6), (.mv (.t 133)), none⟩])
  .ret)))))))))
def c6 : ICode := b6
theorem w6 : W x Q c6 ks fr H ms = W x Q b6 ks fr H ms := rfl
def r6 : List IRes := [(.tmp 6)]
theorem t6 : Try.f6.body.bind (trCode Try.prog Try.f6.ntmps) = some (strip c6) := by kernel_rfl
theorem q6 : trRes Try.prog Try.f6.results.toList = some r6 := by kernel_rfl
theorem fn6 : Try.prog.funcs[6]? = some Try.f6 := by kernel_rfl
theorem nn6 : (Try.f6.name == "runtime.NumGoroutine") = false := by kernel_rfl
theorem nt6 : Try.f6.ntmps = 134 := by kernel_rfl
abbrev b7T1 : ICode :=
  (.keep [] (.seq (.ops [⟨(some 6), (.mv (.k (B false))), none⟩])
  .ret))
def c7T1 : ICode := b7T1
theorem w7T1 : W x Q c7T1 ks fr H ms = W x Q b7T1 ks fr H ms := rfl
/- live: [0, 1, 2, 7, 9, 47] -/
abbrev b7L0 : ICode :=
  (.seq (.ops [⟨(some 48), (.bin .lss (.t 47) (.k (I 2000))), none⟩])
  (.seq (.cond (.t 48)
    .skip
    (.exit 0))
  (.seq (.block 1 (.seq (.seq (.ops [⟨(some 49), (.mv (.t 9)), none⟩,
    ⟨(some 50), (.call (.k (.fn (.func 24) [] [])) [(.t 49), (.k (I 0)), (.k (I 1000))]), none⟩,
    ⟨(some 51), (.un .not (.t 50)), none⟩])
  (.cond (.t 51)
    (.seq (.ops [⟨(some 52), (.mv (.t 9)), none⟩,
      ⟨(some 53), (.mv (.t 2)), none⟩,
      ⟨(some 54), (.call (.k (.fn (.func 37) [] [])) [(.t 52), (.t 53)]), none⟩,
      ⟨(some 55), (.mv (.t 7)), none⟩,
      ⟨(some 56), (.bin .geq (.t 54) (.t 55)), none⟩,
      ⟨(some 57), (.mv (.t 56)), none⟩,
      ⟨(some 58), (.call (.k (.fn (.func 25) [] [])) []), (some (57, true))⟩,
      ⟨(some 59), (.pick (.t 57) (.t 58) (.k (B false))), none⟩,
      ⟨(some 6), (.mv (.t 59)), none⟩])
    .ret)
    .skip))
  (.seq (.ops [⟨(some 61), (.mv (.t 0)), none⟩,
    ⟨(some 62), (.call (.k (.fn (.func 18) [] [])) [(.t 61)]), none⟩,
    ⟨(some 63), (.mv (.t 9)), none⟩,
    ⟨(some 64), (.call (.k (.fn (.func 38) [] [])) [(.t 63)]), none⟩,
    ⟨(some 65), (.mv (.t 2)), none⟩,
    ⟨(some 66), (.call (.k (.fn (.func 19) [] [])) [(.t 65)]), none⟩,
    ⟨(some 67), (.call (.k (.fn (.func 33) [] [])) [(.t 62), (.t 64), (.t 66)]), none⟩,
    ⟨(some 60), (.mv (.t 67)), none⟩,
    ⟨(some 68), (.ext (.t 60) 0), none⟩,
    ⟨(some 69), (.ext (.t 60) 1), none⟩,
    ⟨(some 10), (.mv (.t 68)), none⟩,
    ⟨(some 11), (.mv (.t 69)), none⟩])
  (.seq (.seq (.ops [⟨(some 70), (.mv (.t 11)), none⟩,
    ⟨(some 71), (.bin .neq (.t 70) (.k (I 0))), none⟩])
  (.cond (.t 71)
    (.seq (.ops [⟨(some 72), (.mv (.t 11)), none⟩,
      ⟨(some 73), (.bin .eql (.t 72) (.k (I 4))), none⟩,
      ⟨(some 74), (.mv (.t 73)), none⟩,
      ⟨(some 75), (.mv (.t 9)), (some (74, true))⟩,
      ⟨(some 76), (.mv (.t 2)), (some (74, true))⟩,
      ⟨(some 77), (.call (.k (.fn (.func 37) [] [])) [(.t 75), (.t 76)]), (some (74, true))⟩,
      ⟨(some 78), (.mv (.t 7)), (some (74, true))⟩,
      ⟨(some 79), (.bin .eql (.t 77) (.t 78)), (some (74, true))⟩,
      ⟨(some 80), (.pick (.t 74) (.t 79) (.k (B false))), none⟩,
      ⟨(some 81), (.mv (.t 80)), none⟩,
      ⟨(some 82), (.call (.k (.fn (.func 25) [] [])) []), (some (81, true))⟩,
      ⟨(some 83), (.pick (.t 81) (.t 82) (.k (B false))), none⟩,
      ⟨(some 6), (.mv (.t 83)), none⟩])
    .ret)
    .skip))
  (.seq (.seq (.ops [⟨(some 84), (.mv (.t 0)), none⟩,
    ⟨(some 85), (.mv (.t 10)), none⟩,
    ⟨(some 86), (.call (.k (.fn (.func 21) [] [])) [(.t 84), (.t 85), (.k (I 0)), (.k (I 100000))]), none⟩,
    ⟨(some 87), (.un .not (.t 86)), none⟩,
    ⟨(some 88), (.mv (.t 87)), none⟩,
    ⟨(some 89), (.mv (.t 10)), (some (88, false))⟩,
    ⟨(some 90), (.mv (.t 2)), (some (88, false))⟩,
    ⟨(some 91), (.call (.k (.fn (.func 37) [] [])) [(.t 89), (.t 90)]), (some (88, false))⟩,
    ⟨(some 92), (.mv (.t 9)), (some (88, false))⟩,
    ⟨(some 93), (.mv (.t 2)), (some (88, false))⟩,
    ⟨(some 94), (.call (.k (.fn (.func 37) [] [])) [(.t 92), (.t 93)]), (some (88, false))⟩,
    ⟨(some 95), (.bin .geq (.t 91) (.t 94)), (some (88, false))⟩,
    ⟨(some 96), (.pick (.t 88) (.k (B true)) (.t 95)), none⟩,
    ⟨(some 97), (.mv (.t 96)), none⟩,
    ⟨(some 98), (.mv (.t 0)), (some (97, false))⟩,
    ⟨(some 99), (.mv (.t 10)), (some (97, false))⟩,
    ⟨(some 100), (.call (.k (.fn (.func 23) [] [])) [(.t 98), (.t 99)]), (some (97, false))⟩,
    ⟨(some 101), (.mv (.t 0)), (some (97, false))⟩,
    ⟨(some 102), (.mv (.t 1)), (some (97, false))⟩,
    ⟨(some 103), (.call (.k (.fn (.func 23) [] [])) [(.t 101), (.t 102)]), (some (97, false))⟩,
    ⟨(some 104), (.call (.k (.fn (.func 22) [] [])) [(.t 100), (.t 103)]), (some (97, false))⟩,
    ⟨(some 105), (.un .not (.t 104)), (some (97, false))⟩,
    ⟨(some 106), (.pick (.t 97) (.k (B true)) (.t 105)), none⟩])
  (.cond (.t 106)
    (.seq (.ops [⟨(some 6), (.mv (.k (B false))), none⟩])
    .ret)
    .skip))
  (.ops [⟨(some 107), (.mv (.t 10)), none⟩,
    ⟨(some 9), (.mv (.t 107)), none⟩]))))))
  (.ops [⟨(some 108), (.bin .add (.t 47) (.k (I 1))), none⟩,
    ⟨(some 47), (.mv (.t 108)), none⟩]))))
def c7L0 : ICode := b7L0
theorem w7L0 : W x Q c7L0 ks fr H ms = W x Q b7L0 ks fr H ms := rfl
abbrev b7 : ICode :=
  (.seq (.ops [⟨(some 6), (.mv (.k (B false))), none⟩])
  (.seq (.ops [⟨(some 13), (.mv (.t 0)), none⟩,
    ⟨(some 14), (.call (.k (.fn (.func 18) [] [])) [(.t 13)]), none⟩,
    ⟨(some 15), (.mv (.t 1)), none⟩,
    ⟨(some 16), (.call (.k (.fn (.func 19) [] [])) [(.t 15)]), none⟩,
    ⟨(some 17), (.mv (.t 2)), none⟩,
    ⟨(some 18), (.call (.k (.fn (.func 19) [] [])) [(.t 17)]), none⟩,
    ⟨(some 19), (.call (.k (.fn (.func 32) [] [])) [(.t 14), (.t 16), (.t 18)]), none⟩,
    ⟨(some 12), (.mv (.t 19)), none⟩,
    ⟨(some 20), (.ext (.t 12) 0), none⟩,
    ⟨(some 21), (.ext (.t 12) 1), none⟩,
    ⟨(some 7), (.mv (.t 20)), none⟩,
    ⟨(some 8), (.mv (.t 21)), none⟩])
  (.seq (.seq (.ops [⟨(some 22), (.mv (.t 8)), none⟩,
    ⟨(some 23), (.bin .neq (.t 22) (.k (I 0))), none⟩,
    ⟨(some 24), (.mv (.t 23)), none⟩,
    ⟨(some 25), (.mv (.t 0)), (some (24, false))⟩,
    ⟨(some 26), (.mv (.t 1)), (some (24, false))⟩,
    ⟨(some 27), (.call (.k (.fn (.func 21) [] [])) [(.t 25), (.t 26), (.k (I 0)), (.k (I 6))]), (some (24, false))⟩,
    ⟨(some 28), (.un .not (.t 27)), (some (24, false))⟩,
    ⟨(some 29), (.pick (.t 24) (.k (B true)) (.t 28)), none⟩,
    ⟨(some 30), (.mv (.t 29)), none⟩,
    ⟨(some 31), (.mv (.t 0)), (some (30, false))⟩,
    ⟨(some 32), (.mv (.t 2)), (some (30, false))⟩,
    ⟨(some 33), (.call (.k (.fn (.func 21) [] [])) [(.t 31), (.t 32), (.k (I (-9))), (.k (I 9))]), (some (30, false))⟩,
    ⟨(some 34), (.un .not (.t 33)), (some (30, false))⟩,
    ⟨(some 35), (.pick (.t 30) (.k (B true)) (.t 34)), none⟩])
  (.cond (.t 35)
    (.seq (.ops [⟨(some 36), (.mv (.t 8)), none⟩,
      ⟨(some 37), (.bin .eql (.t 36) (.k (I 2))), none⟩,
      ⟨(some 38), (.mv (.t 37)), none⟩,
      ⟨(some 39), (.mv (.t 8)), (some (38, false))⟩,
      ⟨(some 40), (.bin .eql (.t 39) (.k (I 5))), (some (38, false))⟩,
      ⟨(some 41), (.pick (.t 38) (.k (B true)) (.t 40)), none⟩,
      ⟨(some 42), (.mv (.t 41)), none⟩,
      ⟨(some 43), (.call (.k (.fn (.func 25) [] [])) []), (some (42, true))⟩,
      ⟨(some 44), (.pick (.t 42) (.t 43) (.k (B false))), none⟩,
      ⟨(some 6), (.mv (.t 44)), none⟩])
    .ret)
    .skip))
  (.seq (.ops [⟨(some 45), (.mv (.t 1)), none⟩,
    ⟨(some 46), (.call (.k (.fn (.func 19) [] [])) [(.t 45)]), none⟩,
    ⟨(some 9), (.mv (.t 46)), none⟩])
  (.seq (.seq (.ops [⟨(some 47), (.mv (.k (I 0))), none⟩])
  (.block 0 (.loop c7L0)))
  c7T1)))))
def c7 : ICode := b7
theorem w7 : W x Q c7 ks fr H ms = W x Q b7 ks fr H ms := rfl
def r7 : List IRes := [(.tmp 6)]
theorem t7 : Try.f7.body.bind (trCode Try.prog Try.f7.ntmps) = some (strip c7) := by kernel_rfl
theorem q7 : trRes Try.prog Try.f7.results.toList = some r7 := by kernel_rfl
theorem fn7 : Try.prog.funcs[7]? = some Try.f7 := by kernel_rfl
theorem nn7 : (Try.f7.name == "runtime.NumGoroutine") = false := by kernel_rfl
theorem nt7 : Try.f7.ntmps = 109 := by kernel_rfl
/- live: [8, 9] -/
abbrev b32L0 : ICode :=
  (.block 1 (.seq (.ops [⟨(some 25), (.load true 7 (.t 8)), none⟩,
    ⟨(some 26), (.load true 4 (.t 9)), none⟩,
    ⟨(some 27), (.call (.k (.fn (.func 81) [] [])) [(.t 25), (.t 26)]), none⟩,
    ⟨(some 24), (.mv (.t 27)), none⟩,
    ⟨(some 28), (.ext (.t 24) 0), none⟩,
    ⟨(some 29), (.ext (.t 24) 1), none⟩,
    ⟨(some 11), (.alloc [(I 0), (I 0), (I 0), (I 0)]), none⟩,
    ⟨none, (.store 4 (.t 11) (.t 28)), none⟩,
    ⟨(some 12), (.mv (.t 29)), none⟩])
  (.seq (.seq (.ops [⟨(some 30), (.mv (.t 12)), none⟩,
    ⟨(some 31), (.un .not (.t 30)), none⟩])
  (.cond (.t 31)
    (.seq (.ops [⟨(some 32), (.load true 4 (.t 9)), none⟩,
      ⟨(some 33), (.fldA 3 (.t 8)), none⟩,
      ⟨(some 34), (.load true 4 (.t 33)), none⟩,
      ⟨(some 35), (.call (.k (.fn (.func 82) [] [])) [(.t 32), (.t 34)]), none⟩,
      ⟨(some 6), (.mv (.t 35)), none⟩,
      ⟨(some 7), (.mv (.k (I 0))), none⟩])
    .ret)
    .skip))
  (.ops [⟨(some 36), (.load true 4 (.t 11)), none⟩,
    ⟨(some 37), (.fldA 3 (.t 8)), none⟩,
    ⟨none, (.store 4 (.t 37) (.t 36)), none⟩]))))
def c32L0 : ICode := b32L0
theorem w32L0 : W x Q c32L0 ks fr H ms = W x Q b32L0 ks fr H ms := rfl
abbrev b32 : ICode :=
  (.seq (.ops [⟨(some 6), (.mv (.k (I 0))), none⟩,
    ⟨(some 7), (.mv (.k (I 0))), none⟩])
  (.seq (.ops [⟨(some 14), (.mv (.t 0)), none⟩,
    ⟨(some 15), (.mv (.t 1)), none⟩,
    ⟨(some 16), (.mv (.t 2)), none⟩,
    ⟨(some 17), (.call (.k (.fn (.func 80) [] [])) [(.t 14), (.t 15), (.t 16), (.k (I 6))]), none⟩,
    ⟨(some 13), (.mv (.t 17)), none⟩,
    ⟨(some 18), (.ext (.t 13) 0), none⟩,
    ⟨(some 19), (.ext (.t 13) 1), none⟩,
    ⟨(some 20), (.ext (.t 13) 2), none⟩,
    ⟨(some 8), (.alloc [nilSl, (I 0), nilSl, (I 0), (I 0), (I 0), (I 0)]), none⟩,
    ⟨(some 9), (.alloc [(I 0), (I 0), (I 0), (I 0)]), none⟩,
    ⟨none, (.store 7 (.t 8) (.t 18)), none⟩,
    ⟨none, (.store 4 (.t 9) (.t 19)), none⟩,
    ⟨(some 10), (.mv (.t 20)), none⟩])
  (.seq (.seq (.ops [⟨(some 21), (.mv (.t 10)), none⟩,
    ⟨(some 22), (.bin .neq (.t 21) (.k (I 0))), none⟩])
  (.cond (.t 22)
    (.seq (.ops [⟨(some 23), (.mv (.t 10)), none⟩,
      ⟨(some 6), (.mv (.k (I 0))), none⟩,
      ⟨(some 7), (.mv (.t 23)), none⟩])
    .ret)
    .skip))
  (.block 0 (.loop c32L0)))))
def c32 : ICode := b32
theorem w32 : W x Q c32 ks fr H ms = W x Q b32 ks fr H ms := rfl
def r32 : List IRes := [(.tmp 6), (.tmp 7)]
theorem t32 : Try.f32.body.bind (trCode Try.prog Try.f32.ntmps) = some (strip c32) := by kernel_rfl
theorem q32 : trRes Try.prog Try.f32.results.toList = some r32 := by kernel_rfl
theorem fn32 : Try.prog.funcs[32]? = some Try.f32 := by kernel_rfl
theorem nn32 : (Try.f32.name == "runtime.NumGoroutine") = false := by kernel_rfl
theorem nt32 : Try.f32.ntmps = 38 := by kernel_rfl
abbrev b33 : ICode :=
  (.seq (.ops [⟨(some 6), (.mv (.k nilSl)), none⟩,
    ⟨(some 7), (.mv (.k (I 0))), none⟩])
  (.seq (.ops [⟨(some 14), (.mv (.t 0)), none⟩,
    ⟨(some 15), (.mv (.t 1)), none⟩,
    ⟨(some 16), (.mv (.t 2)), none⟩,
    ⟨(some 17), (.call (.k (.fn (.func 80) [] [])) [(.t 14), (.t 15), (.t 16), (.k (I 1000))]), none⟩,
    ⟨(some 13), (.mv (.t 17)), none⟩,
    ⟨(some 18), (.ext (.t 13) 0), none⟩,
    ⟨(some 19), (.ext (.t 13) 1), none⟩,
    ⟨(some 20), (.ext (.t 13) 2), none⟩,
    ⟨(some 8), (.alloc [nilSl, (I 0), nilSl, (I 0), (I 0), (I 0), (I 0)]), none⟩,
    ⟨(some 9), (.alloc [(I 0), (I 0), (I 0), (I 0)]), none⟩,
    ⟨none, (.store 7 (.t 8) (.t 18)), none⟩,
    ⟨none, (.store 4 (.t 9) (.t 19)), none⟩,
    ⟨(some 10), (.mv (.t 20)), none⟩])
  (.seq (.seq (.ops [⟨(some 21), (.mv (.t 10)), none⟩,
    ⟨(some 22), (.bin .neq (.t 21) (.k (I 0))), none⟩])
  (.cond (.t 22)
    (.seq (.ops [⟨(some 23), (.mv (.t 10)), none⟩,
      ⟨(some 6), (.mv (.k nilSl)), none⟩,
      ⟨(some 7), (.mv (.t 23)), none⟩])
    .ret)
    .skip))
  (.seq (.ops [⟨(some 25), (.load true 7 (.t 8)), none⟩,
    ⟨(some 26), (.load true 4 (.t 9)), none⟩,
    ⟨(some 27), (.call (.k (.fn (.func 81) [] [])) [(.t 25), (.t 26)]), none⟩,
    ⟨(some 24), (.mv (.t 27)), none⟩,
    ⟨(some 28), (.ext (.t 24) 0), none⟩,
    ⟨(some 29), (.ext (.t 24) 1), none⟩,
    ⟨(some 11), (.alloc [(I 0), (I 0), (I 0), (I 0)]), none⟩,
    ⟨none, (.store 4 (.t 11) (.t 28)), none⟩,
    ⟨(some 12), (.mv (.t 29)), none⟩])
  (.seq (.seq (.ops [⟨(some 30), (.mv (.t 12)), none⟩,
    ⟨(some 31), (.un .not (.t 30)), none⟩])
  (.cond (.t 31)
    (.seq (.ops [⟨(some 6), (.mv (.k nilSl)), none⟩,
      ⟨(some 7), (.mv (.k (I 4))), none⟩])
    .ret)
    .skip))
  (.seq (.ops [⟨(some 32), (.fldA 0 (.t 8)), none⟩,
    ⟨(some 33), (.load true 2 (.t 32)), none⟩,
    ⟨(some 34), (.load true 4 (.t 11)), none⟩,
    ⟨(some 35), (.call (.k (.fn (.func 71) [] [])) [(.t 33), (.t 34)]), none⟩,
    ⟨(some 6), (.mv (.t 35)), none⟩,
    ⟨(some 7), (.mv (.k (I 0))), none⟩])
  .ret))))))
def c33 : ICode := b33
theorem w33 : W x Q c33 ks fr H ms = W x Q b33 ks fr H ms := rfl
def r33 : List IRes := [(.tmp 6), (.tmp 7)]
theorem t33 : Try.f33.body.bind (trCode Try.prog Try.f33.ntmps) = some (strip c33) := by kernel_rfl
theorem q33 : trRes Try.prog Try.f33.results.toList = some r33 := by kernel_rfl
theorem fn33 : Try.prog.funcs[33]? = some Try.f33 := by kernel_rfl
theorem nn33 : (Try.f33.name == "runtime.NumGoroutine") = false := by kernel_rfl
theorem nt33 : Try.f33.ntmps = 36 := by kernel_rfl
abbrev b35T1 : ICode :=
  (.keep [8] (.seq (.seq (.ops [⟨(some 61), (.mv (.t 8)), none⟩,
    ⟨(some 62), (.eqnil false (.t 61)), none⟩])
  (.cond (.t 62)
    (.seq (.ops [⟨(some 6), (.mv (.k nilSl)), none⟩,
      ⟨(some 7), (.mv (.k (I 4))), none⟩])
    .ret)
    .skip))
  (.seq (.ops [⟨(some 63), (.mv (.t 8)), none⟩,
    ⟨(some 6), (.mv (.t 63)), none⟩,
    ⟨(some 7), (.mv (.k (I 0))), none⟩])
  .ret)))
def c35T1 : ICode := b35T1
theorem w35T1 : W x Q c35T1 ks fr H ms = W x Q b35T1 ks fr H ms := rfl
/- live: [1, 2, 8, 13, 14, 15] -/
abbrev b35L0 : ICode :=
  (.seq (.ops [⟨(some 16), (.bin .lss (.t 15) (.t 14)), none⟩])
  (.seq (.cond (.t 16)
    .skip
    (.exit 0))
  (.seq (.block 1 (.seq (.ops [⟨(some 17), (.ixS 1 (.t 13) (.t 15)), none⟩,
    ⟨(some 18), (.load false 1 (.t 17)), none⟩,
    ⟨(some 10), (.mv (.t 18)), none⟩])
  (.seq (.ops [⟨(some 19), (.mv (.t 1)), none⟩,
    ⟨(some 20), (.mv (.t 10)), none⟩,
    ⟨(some 21), (.call (.k (.fn (.func 79) [] [])) [(.t 19), (.t 20)]), none⟩,
    ⟨(some 11), (.mv (.t 21)), none⟩])
  (.seq (.seq (.ops [⟨(some 22), (.mv (.t 11)), none⟩,
    ⟨(some 23), (.call (.k (.fn (.func 24) [] [])) [(.t 22), (.k (I 0)), (.k (I 1000000))]), none⟩,
    ⟨(some 24), (.un .not (.t 23)), none⟩,
    ⟨(some 25), (.mv (.t 24)), none⟩,
    ⟨(some 26), (.mv (.t 11)), (some (25, false))⟩,
    ⟨(some 27), (.mv (.t 2)), (some (25, false))⟩,
    ⟨(some 28), (.call (.k (.fn (.func 37) [] [])) [(.t 26), (.t 27)]), (some (25, false))⟩,
    ⟨(some 29), (.mv (.t 1)), (some (25, false))⟩,
    ⟨(some 30), (.mv (.t 2)), (some (25, false))⟩,
    ⟨(some 31), (.call (.k (.fn (.func 37) [] [])) [(.t 29), (.t 30)]), (some (25, false))⟩,
    ⟨(some 32), (.bin .geq (.t 28) (.t 31)), (some (25, false))⟩,
    ⟨(some 33), (.pick (.t 25) (.k (B true)) (.t 32)), none⟩])
  (.cond (.t 33)
    (.exit 1)
    .skip))
  (.seq (.ops [⟨(some 34), (.mv (.t 8)), none⟩,
    ⟨(some 35), (.eqnil false (.t 34)), none⟩,
    ⟨(some 36), (.mv (.t 35)), none⟩,
    ⟨(some 37), (.mv (.t 11)), (some (36, false))⟩,
    ⟨(some 38), (.mv (.t 2)), (some (36, false))⟩,
    ⟨(some 39), (.call (.k (.fn (.func 37) [] [])) [(.t 37), (.t 38)]), (some (36, false))⟩,
    ⟨(some 40), (.mv (.t 8)), (some (36, false))⟩,
    ⟨(some 41), (.mv (.t 2)), (some (36, false))⟩,
    ⟨(some 42), (.call (.k (.fn (.func 37) [] [])) [(.t 40), (.t 41)]), (some (36, false))⟩,
    ⟨(some 43), (.bin .lss (.t 39) (.t 42)), (some (36, false))⟩,
    ⟨(some 44), (.pick (.t 36) (.k (B true)) (.t 43)), none⟩,
    ⟨(some 45), (.mv (.t 44)), none⟩,
    ⟨(some 46), (.mv (.t 11)), (some (45, false))⟩,
    ⟨(some 47), (.mv (.t 2)), (some (45, false))⟩,
    ⟨(some 48), (.call (.k (.fn (.func 37) [] [])) [(.t 46), (.t 47)]), (some (45, false))⟩,
    ⟨(some 49), (.mv (.t 8)), (some (45, false))⟩,
    ⟨(some 50), (.mv (.t 2)), (some (45, false))⟩,
    ⟨(some 51), (.call (.k (.fn (.func 37) [] [])) [(.t 49), (.t 50)]), (some (45, false))⟩,
    ⟨(some 52), (.bin .eql (.t 48) (.t 51)), (some (45, false))⟩,
    ⟨(some 53), (.mv (.t 52)), (some (45, false))⟩,
    ⟨(some 54), (.mv (.t 11)), (some (53, true))⟩,
    ⟨(some 55), (.mv (.t 8)), (some (53, true))⟩,
    ⟨(some 56), (.call (.k (.fn (.func 83) [] [])) [(.t 54), (.t 55)]), (some (53, true))⟩,
    ⟨(some 57), (.pick (.t 53) (.t 56) (.k (B false))), (some (45, false))⟩,
    ⟨(some 58), (.pick (.t 45) (.k (B true)) (.t 57)), none⟩])
  (.cond (.t 58)
    (.ops [⟨(some 59), (.mv (.t 11)), none⟩,
      ⟨(some 8), (.mv (.t 59)), none⟩])
    .skip))))))
  (.ops [⟨(some 60), (.bin .add (.t 15) (.k (I 1))), none⟩,
    ⟨(some 15), (.mv (.t 60)), none⟩]))))
def c35L0 : ICode := b35L0
theorem w35L0 : W x Q c35L0 ks fr H ms = W x Q b35L0 ks fr H ms := rfl
abbrev b35 : ICode :=
  (.seq (.ops [⟨(some 6), (.mv (.k nilSl)), none⟩,
    ⟨(some 7), (.mv (.k (I 0))), none⟩])
  (.seq (.ops [⟨(some 8), (.mv (.k nilSl)), none⟩])
  (.seq (.seq (.ops [⟨(some 12), (.mv (.t 0)), none⟩,
    ⟨(some 13), (.call (.k (.fn (.func 50) [] [])) [(.t 12)]), none⟩,
    ⟨(some 14), (.len (.t 13)), none⟩,
    ⟨(some 15), (.mv (.k (I 0))), none⟩])
  (.block 0 (.loop c35L0)))
  c35T1)))
def c35 : ICode := b35
theorem w35 : W x Q c35 ks fr H ms = W x Q b35 ks fr H ms := rfl
def r35 : List IRes := [(.tmp 6), (.tmp 7)]
theorem t35 : Try.f35.body.bind (trCode Try.prog Try.f35.ntmps) = some (strip c35) := by kernel_rfl
theorem q35 : trRes Try.prog Try.f35.results.toList = some r35 := by kernel_rfl
theorem fn35 : Try.prog.funcs[35]? = some Try.f35 := by kernel_rfl
theorem nn35 : (Try.f35.name == "runtime.NumGoroutine") = false := by kernel_rfl
theorem nt35 : Try.f35.ntmps = 64 := by kernel_rfl
abbrev b36T1 : ICode :=
  (.keep [7] (.seq (.ops [⟨(some 27), (.mv (.t 7)), none⟩,
    ⟨(some 6), (.mv (.t 27)), none⟩])
  .ret))
def c36T1 : ICode := b36T1
theorem w36T1 : W x Q c36T1 ks fr H ms = W x Q b36T1 ks fr H ms := rfl
/- live: [2, 7, 15, 16, 17] -/
abbrev b36L0 : ICode :=
  (.seq (.ops [⟨(some 18), (.bin .lss (.t 17) (.t 16)), none⟩])
  (.seq (.cond (.t 18)
    .skip
    (.exit 0))
  (.seq (.block 1 (.seq (.ops [⟨(some 19), (.ixS 1 (.t 15) (.t 17)), none⟩,
    ⟨(some 20), (.load false 1 (.t 19)), none⟩,
    ⟨(some 9), (.mv (.t 20)), none⟩])
  (.ops [⟨(some 21), (.mv (.t 7)), none⟩,
    ⟨(some 22), (.mv (.t 9)), none⟩,
    ⟨(some 23), (.mv (.t 2)), none⟩,
    ⟨(some 24), (.call (.k (.fn (.func 37) [] [])) [(.t 22), (.t 23)]), none⟩,
    ⟨(some 25), (.mn (.t 21) (.t 24)), none⟩,
    ⟨(some 7), (.mv (.t 25)), none⟩])))
  (.ops [⟨(some 26), (.bin .add (.t 17) (.k (I 1))), none⟩,
    ⟨(some 17), (.mv (.t 26)), none⟩]))))
def c36L0 : ICode := b36L0
theorem w36L0 : W x Q c36L0 ks fr H ms = W x Q b36L0 ks fr H ms := rfl
abbrev b36 : ICode :=
  (.seq (.ops [⟨(some 6), (.mv (.k (I 0))), none⟩])
  (.seq (.ops [⟨(some 10), (.mv (.t 1)), none⟩,
    ⟨(some 11), (.mv (.t 2)), none⟩,
    ⟨(some 12), (.call (.k (.fn (.func 37) [] [])) [(.t 10), (.t 11)]), none⟩,
    ⟨(some 7), (.mv (.t 12)), none⟩])
  (.seq (.seq (.ops [⟨(some 13), (.mv (.t 0)), none⟩,
    ⟨(some 14), (.mv (.t 1)), none⟩,
    ⟨(some 15), (.call (.k (.fn (.func 61) [] [])) [(.t 13), (.t 14)]), none⟩,
    ⟨(some 16), (.len (.t 15)), none⟩,
    ⟨(some 17), (.mv (.k (I 0))), none⟩])
  (.block 0 (.loop c36L0)))
  c36T1)))
def c36 : ICode := b36
theorem w36 : W x Q c36 ks fr H ms = W x Q b36 ks fr H ms := rfl
def r36 : List IRes := [(.tmp 6)]
theorem t36 : Try.f36.body.bind (trCode Try.prog Try.f36.ntmps) = some (strip c36) := by kernel_rfl
theorem q36 : trRes Try.prog Try.f36.results.toList = some r36 := by kernel_rfl
theorem fn36 : Try.prog.funcs[36]? = some Try.f36 := by kernel_rfl
theorem nn36 : (Try.f36.name == "runtime.NumGoroutine") = false := by kernel_rfl
theorem nt36 : Try.f36.ntmps = 28 := by kernel_rfl
abbrev b37T1 : ICode :=
  (.keep [5] (.seq (.ops [⟨(some 24), (.mv (.t 5)), none⟩,
    ⟨(some 4), (.mv (.t 24)), none⟩])
  .ret))
def c37T1 : ICode := b37T1
theorem w37T1 : W x Q c37T1 ks fr H ms = W x Q b37T1 ks fr H ms := rfl
/- live: [1, 5, 8, 9, 10] -/
abbrev b37L0 : ICode :=
  (.seq (.ops [⟨(some 11), (.bin .lss (.t 10) (.t 9)), none⟩])
  (.seq (.cond (.t 11)
    .skip
    (.exit 0))
  (.seq (.block 1 (.seq (.ops [⟨(some 12), (.mv (.t 10)), none⟩,
    ⟨(some 13), (.ixS 1 (.t 8) (.t 10)), none⟩,
    ⟨(some 14), (.load false 1 (.t 13)), none⟩,
    ⟨(some 6), (.mv (.t 12)), none⟩,
    ⟨(some 7), (.mv (.t 14)), none⟩])
  (.ops [⟨(some 15), (.mv (.t 5)), none⟩,
    ⟨(some 16), (.mv (.t 7)), none⟩,
    ⟨(some 17), (.mv (.t 1)), none⟩,
    ⟨(some 18), (.mv (.t 6)), none⟩,
    ⟨(some 19), (.ixS 1 (.t 17) (.t 18)), none⟩,
    ⟨(some 20), (.load false 1 (.t 19)), none⟩,
    ⟨(some 21), (.bin .mul (.t 16) (.t 20)), none⟩,
    ⟨(some 22), (.bin .add (.t 15) (.t 21)), none⟩,
    ⟨(some 5), (.mv (.t 22)), none⟩])))
  (.ops [⟨(some 23), (.bin .add (.t 10) (.k (I 1))), none⟩,
    ⟨(some 10), (.mv (.t 23)), none⟩]))))
def c37L0 : ICode := b37L0
theorem w37L0 : W x Q c37L0 ks fr H ms = W x Q b37L0 ks fr H ms := rfl
abbrev b37 : ICode :=
  (.seq (.ops [⟨(some 4), (.mv (.k (I 0))), none⟩])
  (.seq (.ops [⟨(some 5), (.mv (.k (I 0))), none⟩])
  (.seq (.seq (.ops [⟨(some 8), (.mv (.t 0)), none⟩,
    ⟨(some 9), (.len (.t 8)), none⟩,
    ⟨(some 10), (.mv (.k (I 0))), none⟩])
  (.block 0 (.loop c37L0)))
  c37T1)))
def c37 : ICode := b37
theorem w37 : W x Q c37 ks fr H ms = W x Q b37 ks fr H ms := rfl
def r37 : List IRes := [(.tmp 4)]
theorem t37 : Try.f37.body.bind (trCode Try.prog Try.f37.ntmps) = some (strip c37) := by kernel_rfl
theorem q37 : trRes Try.prog Try.f37.results.toList = some r37 := by kernel_rfl
theorem fn37 : Try.prog.funcs[37]? = some Try.f37 := by kernel_rfl
theorem nn37 : (Try.f37.name == "runtime.NumGoroutine") = false := by kernel_rfl
theorem nt37 : Try.f37.ntmps = 25 := by kernel_rfl
abbrev b61T3 : ICode :=
  (.keep [6] (.seq (.ops [⟨(some 52), (.mv (.t 6)), none⟩,
    ⟨(some 4), (.mv (.t 52)), none⟩])
  .ret))
def c61T3 : ICode := b61T3
theorem w61T3 : W x Q c61T3 ks fr H ms = W x Q b61T3 ks fr H ms := rfl
abbrev b61T2 : ICode :=
  (.keep [5, 6, 7, 8] (.ops [⟨(some 23), (.mv (.t 8)), none⟩,
    ⟨(some 24), (.bin .add (.t 23) (.k (I 1))), none⟩,
    ⟨(some 8), (.mv (.t 24)), none⟩]))
def c61T2 : ICode := b61T2
theorem w61T2 : W x Q c61T2 ks fr H ms = W x Q b61T2 ks fr H ms := rfl
/- live: [5, 6, 7, 8, 25, 26, 27] -/
abbrev b61L1 : ICode :=
  (.seq (.ops [⟨(some 28), (.bin .lss (.t 27) (.t 26)), none⟩])
  (.seq (.cond (.t 28)
    .skip
    (.exit 2))
  (.seq (.block 3 (.seq (.ops [⟨(some 29), (.ixS 1 (.t 25) (.t 27)), none⟩,
    ⟨(some 30), (.load false 1 (.t 29)), none⟩,
    ⟨(some 10), (.mv (.t 30)), none⟩])
  (.seq (.ops [⟨(some 31), (.mv (.t 7)), none⟩,
    ⟨(some 32), (.mv (.t 8)), none⟩,
    ⟨(some 33), (.ixS 1 (.t 31) (.t 32)), none⟩,
    ⟨(some 34), (.load false 1 (.t 33)), none⟩,
    ⟨(some 35), (.mv (.t 10)), none⟩,
    ⟨(some 36), (.call (.k (.fn (.func 79) [] [])) [(.t 34), (.t 35)]), none⟩,
    ⟨(some 11), (.mv (.t 36)), none⟩])
  (.seq (.seq (.ops [⟨(some 37), (.mv (.t 11)), none⟩,
    ⟨(some 38), (.call (.k (.fn (.func 24) [] [])) [(.t 37), (.k (I 0)), (.k (I 1000000))]), none⟩,
    ⟨(some 39), (.un .not (.t 38)), none⟩])
  (.cond (.t 39)
    (.exit 3)
    .skip))
  (.seq (.ops [⟨(some 12), (.mv (.k (B false))), none⟩])
  (.seq (.ops [⟨(some 41), (.mv (.t 6)), none⟩,
    ⟨(some 42), (.mv (.t 11)), none⟩,
    ⟨(some 43), (.call (.k (.fn (.func 95) [] [])) [(.t 41), (.t 42)]), none⟩,
    ⟨(some 40), (.mv (.t 43)), none⟩,
    ⟨(some 44), (.ext (.t 40) 0), none⟩,
    ⟨(some 45), (.ext (.t 40) 1), none⟩,
    ⟨(some 6), (.mv (.t 44)), none⟩,
    ⟨(some 12), (.mv (.t 45)), none⟩])
  (.seq (.ops [⟨(some 46), (.mv (.t 12)), none⟩])
  (.cond (.t 46)
    (.ops [⟨(some 47), (.mv (.t 7)), none⟩,
      ⟨(some 48), (.mv (.t 11)), none⟩,
      ⟨(some 49), (.bslice 1 1 [nilSl] [(0, 1, (.t 48))]), none⟩,
      ⟨(some 50), (.append 1 24 (.t 47) (.t 49)), none⟩,
      ⟨(some 7), (.mv (.t 50)), none⟩])
    .skip))))))))
  (.ops [⟨(some 51), (.bin .add (.t 27) (.k (I 1))), none⟩,
    ⟨(some 27), (.mv (.t 51)), none⟩]))))
def c61L1 : ICode := b61L1
theorem w61L1 : W x Q c61L1 ks fr H ms = W x Q b61L1 ks fr H ms := rfl
/- live: [5, 6, 7, 8] -/
abbrev b61L0 : ICode :=
  (.seq (.seq (.ops [⟨(some 19), (.mv (.t 8)), none⟩,
    ⟨(some 20), (.mv (.t 7)), none⟩,
    ⟨(some 21), (.len (.t 20)), none⟩,
    ⟨(some 22), (.bin .lss (.t 19) (.t 21)), none⟩])
  (.cond (.t 22)
    .skip
    (.exit 0)))
  (.seq (.block 1 (.seq (.ops [⟨(some 25), (.mv (.t 5)), none⟩,
    ⟨(some 26), (.len (.t 25)), none⟩,
    ⟨(some 27), (.mv (.k (I 0))), none⟩])
  (.block 2 (.loop c61L1))))
  c61T2))
def c61L0 : ICode := b61L0
theorem w61L0 : W x Q c61L0 ks fr H ms = W x Q b61L0 ks fr H ms := rfl
abbrev b61 : ICode :=
  (.seq (.ops [⟨(some 4), (.mv (.k nilSl)), none⟩])
  (.seq (.ops [⟨(some 13), (.mv (.t 0)), none⟩,
    ⟨(some 14), (.call (.k (.fn (.func 50) [] [])) [(.t 13)]), none⟩,
    ⟨(some 5), (.mv (.t 14)), none⟩])
  (.seq (.ops [⟨(some 15), (.mv (.t 1)), none⟩,
    ⟨(some 16), (.bslice 1 1 [nilSl] [(0, 1, (.t 15))]), none⟩,
    ⟨(some 6), (.mv (.t 16)), none⟩])
  (.seq (.ops [⟨(some 17), (.mv (.t 1)), none⟩,
    ⟨(some 18), (.bslice 1 1 [nilSl] [(0, 1, (.t 17))]), none⟩,
    ⟨(some 7), (.mv (.t 18)), none⟩])
  (.seq (.seq (.ops [⟨(some 8), (.mv (.k (I 0))), none⟩])
  (.block 0 (.loop c61L0)))
  c61T3)))))
def c61 : ICode := b61
theorem w61 : W x Q c61 ks fr H ms = W x Q b61 ks fr H ms := rfl
def r61 : List IRes := [(.tmp 4)]
theorem t61 : Try.f61.body.bind (trCode Try.prog Try.f61.ntmps) = some (strip c61) := by kernel_rfl
theorem q61 : trRes Try.prog Try.f61.results.toList = some r61 := by kernel_rfl
theorem fn61 : Try.prog.funcs[61]? = some Try.f61 := by kernel_rfl
theorem nn61 : (Try.f61.name == "runtime.NumGoroutine") = false := by kernel_rfl
theorem nt61 : Try.f61.ntmps = 53 := by kernel_rfl
abbrev b80 : ICode :=
  (.seq (.ops [⟨(some 8), (.alloc [nilSl, (I 0), nilSl, (I 0), (I 0), (I 0), (I 0)]), none⟩,
    ⟨(some 9), (.alloc [(I 0), (I 0), (I 0), (I 0)]), none⟩,
    ⟨(some 10), (.mv (.k (I 0))), none⟩])
  (.seq (.ops [⟨(some 14), (.mv (.t 0)), none⟩,
    ⟨(some 15), (.mv (.t 1)), none⟩,
    ⟨(some 16), (.mv (.t 3)), none⟩,
    ⟨(some 17), (.call (.k (.fn (.func 98) [] [])) [(.t 14), (.t 15), (.t 16)]), none⟩,
    ⟨(some 13), (.mv (.t 17)), none⟩,
    ⟨(some 18), (.ext (.t 13) 0), none⟩,
    ⟨(some 19), (.ext (.t 13) 1), none⟩,
    ⟨(some 11), (.alloc [nilSl, (I 0), nilSl, (I 0), (I 0), (I 0), (I 0)]), none⟩,
    ⟨none, (.store 7 (.t 11) (.t 18)), none⟩,
    ⟨(some 12), (.mv (.t 19)), none⟩])
  (.seq (.seq (.ops [⟨(some 20), (.mv (.t 12)), none⟩,
    ⟨(some 21), (.bin .eql (.t 20) (.k (I 2))), none⟩,
    ⟨(some 22), (.mv (.t 21)), none⟩,
    ⟨(some 23), (.mv (.t 2)), (some (22, false))⟩,
    ⟨(some 24), (.fldA 0 (.t 11)), (some (22, false))⟩,
    ⟨(some 25), (.fldA 1 (.t 24)), (some (22, false))⟩,
    ⟨(some 26), (.load false 1 (.t 25)), (some (22, false))⟩,
    ⟨(some 27), (.call (.k (.fn (.func 109) [] [])) [(.t 23), (.t 26)]), (some (22, false))⟩,
    ⟨(some 28), (.un .not (.t 27)), (some (22, false))⟩,
    ⟨(some 29), (.pick (.t 22) (.k (B true)) (.t 28)), none⟩])
  (.cond (.t 29)
    (.seq (.ops [⟨(some 30), (.load true 7 (.t 11)), none⟩,
      ⟨(some 31), (.build [(I 0), (I 0), (I 0), (I 0)] []), none⟩,
      ⟨none, (.store 7 (.t 8) (.t 30)), none⟩,
      ⟨none, (.store 4 (.t 9) (.t 31)), none⟩,
      ⟨(some 10), (.mv (.k (I 2))), none⟩])
    .ret)
    .skip))
  (.seq (.draw 0 [] (.early 1 ⟨(some 32), (.load true 7 (.t 11)), none⟩
    (.early 1 ⟨(some 33), (.mv (.t 2)), none⟩
    (.early 1 ⟨(some 34), (.call (.k (.fn (.func 74) [] [])) [(.t 33)]), none⟩
    (.early 2 ⟨(some 35), (.mv (.t 12)), none⟩
    (.step 0 1 ⟨none, (.store 7 (.t 8) (.t 32)), none⟩
    (.step 0 1 ⟨none, (.store 4 (.t 9) (.t 34)), none⟩
    (.early 0 ⟨(some 10), (.mv (.t 35)), none⟩
    .done))))))))
  (.keep [8, 9, 10] .ret)))))
def c80 : ICode := b80
theorem w80 : W x Q c80 ks fr H ms = W x Q b80 ks fr H ms := rfl
def r80 : List IRes := [(.cell true 7 8), (.cell true 4 9), (.tmp 10)]
theorem t80 : Try.f80.body.bind (trCode Try.prog Try.f80.ntmps) = some (strip c80) := by kernel_rfl
theorem q80 : trRes Try.prog Try.f80.results.toList = some r80 := by kernel_rfl
theorem fn80 : Try.prog.funcs[80]? = some Try.f80 := by kernel_rfl
theorem nn80 : (Try.f80.name == "runtime.NumGoroutine") = false := by kernel_rfl
theorem nt80 : Try.f80.ntmps = 36 := by kernel_rfl
abbrev b81 : ICode :=
  (.seq (.ops [⟨(some 2), (.box (.t 0)), none⟩,
    ⟨(some 3), (.box (.t 1)), none⟩,
    ⟨(some 4), (.alloc [(I 0), (I 0), (I 0), (I 0)]), none⟩,
    ⟨(some 5), (.mv (.k (B false))), none⟩])
  (.seq (.ops [⟨(some 8), (.fldA 3 (.t 2)), none⟩,
    ⟨(some 9), (.load true 4 (.t 8)), none⟩,
    ⟨(some 6), (.alloc [(I 0), (I 0), (I 0), (I 0)]), none⟩,
    ⟨(some 7), (.alloc [(B false)]), none⟩,
    ⟨none, (.store 4 (.t 6) (.t 9)), none⟩,
    ⟨none, (.store 1 (.t 7) (.k (B false))), none⟩])
  (.seq (.ops [⟨(some 10), (.load true 7 (.t 2)), none⟩,
    ⟨(some 11), (.fldA 3 (.t 2)), none⟩,
    ⟨(some 12), (.load true 4 (.t 11)), none⟩,
    ⟨(some 13), (.mkfn (.func 110) [] [(.t 3), (.t 6), (.t 7)]), none⟩,
    ⟨(some 14), (.call (.k (.fn (.func 105) [] [])) [(.t 10), (.t 12), (.t 13)]), none⟩])
  (.seq (.draw 0 [] (.early 1 ⟨(some 15), (.load true 4 (.t 6)), none⟩
    (.both (.step 0 2 ⟨(some 16), (.load false 1 (.t 7)), none⟩
      (.step 0 1 ⟨none, (.store 4 (.t 4) (.t 15)), none⟩
      (.early 0 ⟨(some 5), (.mv (.t 16)), none⟩
      .done)))
    (.step 0 1 ⟨none, (.store 4 (.t 4) (.t 15)), none⟩
      (.step 0 2 ⟨(some 16), (.load false 1 (.t 7)), none⟩
      (.early 0 ⟨(some 5), (.mv (.t 16)), none⟩
      .done))))))
  (.keep [4, 5] .ret)))))
def c81 : ICode := b81
theorem w81 : W x Q c81 ks fr H ms = W x Q b81 ks fr H ms := rfl
def r81 : List IRes := [(.cell true 4 4), (.tmp 5)]
theorem t81 : Try.f81.body.bind ((trCodeX [(3, 2)]) Try.prog Try.f81.ntmps) = some (strip c81) := by kernel_rfl
theorem q81 : trRes Try.prog Try.f81.results.toList = some r81 := by kernel_rfl
theorem fn81 : Try.prog.funcs[81]? = some Try.f81 := by kernel_rfl
theorem nn81 : (Try.f81.name == "runtime.NumGoroutine") = false := by kernel_rfl
theorem nt81 : Try.f81.ntmps = 17 := by kernel_rfl
abbrev b98 : ICode :=
  (.seq (.ops [⟨(some 6), (.alloc [nilSl, (I 0), nilSl, (I 0), (I 0), (I 0), (I 0)]), none⟩,
    ⟨(some 7), (.mv (.k (I 0))), none⟩])
  (.seq (.ops [⟨(some 13), (.mv (.t 0)), none⟩,
    ⟨(some 14), (.call (.k (.fn (.func 62) [] [])) [(.t 13)]), none⟩,
    ⟨(some 12), (.mv (.t 14)), none⟩,
    ⟨(some 15), (.ext (.t 12) 0), none⟩,
    ⟨(some 16), (.ext (.t 12) 1), none⟩,
    ⟨(some 8), (.alloc [nilSl, (I 0)]), none⟩,
    ⟨none, (.store 2 (.t 8) (.t 15)), none⟩,
    ⟨(some 9), (.mv (.t 16)), none⟩])
  (.seq (.seq (.ops [⟨(some 17), (.mv (.t 9)), none⟩,
    ⟨(some 18), (.un .not (.t 17)), none⟩])
  (.cond (.t 18)
    (.seq (.ops [⟨(some 19), (.build [nilSl, (I 0), nilSl, (I 0), (I 0), (I 0), (I 0)] []), none⟩,
      ⟨none, (.store 7 (.t 6) (.t 19)), none⟩,
      ⟨(some 7), (.mv (.k (I 2))), none⟩])
    .ret)
    .skip))
  (.seq (.ops [⟨(some 21), (.load true 2 (.t 8)), none⟩,
    ⟨(some 22), (.mv (.t 1)), none⟩,
    ⟨(some 23), (.mv (.t 2)), none⟩,
    ⟨(some 24), (.call (.k (.fn (.func 63) [] [])) [(.t 21), (.t 22), (.k (I 0)), (.t 23)]), none⟩,
    ⟨(some 20), (.mv (.t 24)), none⟩,
    ⟨(some 25), (.ext (.t 20) 0), none⟩,
    ⟨(some 26), (.ext (.t 20) 1), none⟩,
    ⟨(some 10), (.alloc [(I 0), (I 0), (I 0), (I 0)]), none⟩,
    ⟨none, (.store 4 (.t 10) (.t 25)), none⟩,
    ⟨(some 9), (.mv (.t 26)), none⟩])
  (.seq (.seq (.ops [⟨(some 27), (.mv (.t 9)), none⟩,
    ⟨(some 28), (.un .not (.t 27)), none⟩])
  (.cond (.t 28)
    (.seq (.ops [⟨(some 29), (.build [nilSl, (I 0), nilSl, (I 0), (I 0), (I 0), (I 0)] []), none⟩,
      ⟨none, (.store 7 (.t 6) (.t 29)), none⟩,
      ⟨(some 7), (.mv (.k (I 2))), none⟩])
    .ret)
    .skip))
  (.seq (.draw 1 [] (.early 1 ⟨(some 30), (.load true 2 (.t 8)), none⟩
    (.early 1 ⟨(some 31), (.load true 2 (.t 8)), none⟩
    (.early 1 ⟨(some 33), (.load true 4 (.t 10)), none⟩
    (.both (.step 0 1 ⟨(some 32), (.call (.k (.fn (.func 85) [] [])) [(.t 31)]), none⟩
      (.early 1 ⟨(some 34), (.build [nilSl, (I 0), nilSl, (I 0), (I 0), (I 0), (I 0)] [(0, 2, (.t 30)), (2, 1, (.t 32)), (3, 4, (.t 33))]), none⟩
      (.step 0 1 ⟨(some 11), (.alloc [nilSl, (I 0), nilSl, (I 0), (I 0), (I 0), (I 0)]), none⟩
      (.step 1 0 ⟨none, (.store 7 (.t 11) (.t 34)), none⟩
      .done))))
    (.step 0 1 ⟨(some 11), (.alloc [nilSl, (I 0), nilSl, (I 0), (I 0), (I 0), (I 0)]), none⟩
      (.step 0 1 ⟨(some 32), (.call (.k (.fn (.func 85) [] [])) [(.t 31)]), none⟩
      (.early 1 ⟨(some 34), (.build [nilSl, (I 0), nilSl, (I 0), (I 0), (I 0), (I 0)] [(0, 2, (.t 30)), (2, 1, (.t 32)), (3, 4, (.t 33))]), none⟩
      (.step 1 0 ⟨none, (.store 7 (.t 11) (.t 34)), none⟩
      .done)))))))))
  (.keep [6, 11] (.seq (.seq (.ops [⟨(some 35), (.fldA 2 (.t 11)), none⟩,
    ⟨(some 36), (.load false 1 (.t 35)), none⟩,
    ⟨(some 37), (.call (.k (.fn (.func 103) [] [])) [(.t 36), (.k (.fn (.func 130) [] []))]), none⟩])
  (.cond (.t 37)
    (.seq (.ops [⟨(some 38), (.load true 7 (.t 11)), none⟩,
      ⟨none, (.store 7 (.t 6) (.t 38)), none⟩,
      ⟨(some 7), (.mv (.k (I 5))), none⟩])
    .ret)
    .skip))
  (.seq (.ops [⟨(some 39), (.load true 7 (.t 11)), none⟩,
    ⟨none, (.store 7 (.t 6) (.t 39)), none⟩,
    ⟨(some 7), (.mv (.k (I 0))), none⟩])
  .ret)))))))))
def c98 : ICode := b98
theorem w98 : W x Q c98 ks fr H ms = W x Q b98 ks fr H ms := rfl
def r98 : List IRes := [(.cell true 7 6), (.tmp 7)]
theorem t98 : Try.f98.body.bind ((trCodeX [(7, 4)]) Try.prog Try.f98.ntmps) = some (strip c98) := by kernel_rfl
theorem q98 : trRes Try.prog Try.f98.results.toList = some r98 := by kernel_rfl
theorem fn98 : Try.prog.funcs[98]? = some Try.f98 := by kernel_rfl
theorem nn98 : (Try.f98.name == "runtime.NumGoroutine") = false := by kernel_rfl
theorem nt98 : Try.f98.ntmps = 40 := by kernel_rfl
/- live: [2, 4, 10, 11, 12] -/
abbrev b105L0 : ICode :=
  (.seq (.ops [⟨(some 13), (.bin .lss (.t 12) (.t 11)), none⟩])
  (.seq (.cond (.t 13)
    .skip
    (.exit 0))
  (.seq (.block 1 (.seq (.ops [⟨(some 14), (.ixS 4 (.t 10) (.t 12)), none⟩,
    ⟨(some 15), (.load true 4 (.t 14)), none⟩,
    ⟨(some 7), (.alloc [(I 0), (I 0), (I 0), (I 0)]), none⟩,
    ⟨none, (.store 4 (.t 7) (.t 15)), none⟩])
  (.seq (.ops [⟨(some 16), (.load true 4 (.t 4)), none⟩,
    ⟨(some 17), (.load true 4 (.t 7)), none⟩,
    ⟨(some 18), (.call (.k (.fn (.func 68) [] [])) [(.t 16), (.k (I 1)), (.t 17)]), none⟩,
    ⟨(some 8), (.alloc [(I 0), (I 0), (I 0), (I 0)]), none⟩,
    ⟨none, (.store 4 (.t 8) (.t 18)), none⟩])
  (.seq (.ops [⟨(some 19), (.load true 4 (.t 8)), none⟩,
    ⟨(some 20), (.call (.k (.fn (.func 130) [] [])) [(.t 19)]), none⟩])
  (.cond (.t 20)
    (.ops [⟨(some 21), (.mv (.t 2)), none⟩,
      ⟨(some 22), (.load true 4 (.t 8)), none⟩,
      ⟨(some 23), (.call (.t 21) [(.t 22)]), none⟩])
    .skip)))))
  (.ops [⟨(some 24), (.bin .add (.t 12) (.k (I 1))), none⟩,
    ⟨(some 12), (.mv (.t 24)), none⟩]))))
def c105L0 : ICode := b105L0
theorem w105L0 : W x Q c105L0 ks fr H ms = W x Q b105L0 ks fr H ms := rfl
abbrev b105 : ICode :=
  (.seq (.ops [⟨(some 3), (.box (.t 0)), none⟩,
    ⟨(some 4), (.box (.t 1)), none⟩])
  (.seq (.ops [⟨(some 9), (.fldA 2 (.t 3)), none⟩,
    ⟨(some 10), (.load false 1 (.t 9)), none⟩,
    ⟨(some 11), (.len (.t 10)), none⟩,
    ⟨(some 12), (.mv (.k (I 0))), none⟩])
  (.block 0 (.loop c105L0))))
def c105 : ICode := b105
theorem w105 : W x Q c105 ks fr H ms = W x Q b105 ks fr H ms := rfl
def r105 : List IRes := []
theorem t105 : Try.f105.body.bind (trCode Try.prog Try.f105.ntmps) = some (strip c105) := by kernel_rfl
theorem q105 : trRes Try.prog Try.f105.results.toList = some r105 := by kernel_rfl
theorem fn105 : Try.prog.funcs[105]? = some Try.f105 := by kernel_rfl
theorem nn105 : (Try.f105.name == "runtime.NumGoroutine") = false := by kernel_rfl
theorem nt105 : Try.f105.ntmps = 25 := by kernel_rfl
abbrev b109 : ICode :=
  (.seq (.ops [⟨(some 4), (.mv (.k (B false))), none⟩])
  (.seq (.ops [⟨(some 5), (.mv (.t 0)), none⟩,
    ⟨(some 6), (.len (.t 5)), none⟩,
    ⟨(some 7), (.mv (.t 1)), none⟩,
    ⟨(some 8), (.bin .eql (.t 6) (.t 7)), none⟩,
    ⟨(some 9), (.mv (.t 8)), none⟩,
    ⟨(some 10), (.mv (.t 0)), (some (9, true))⟩,
    ⟨(some 11), (.call (.k (.fn (.func 72) [] [])) [(.t 10)]), (some (9, true))⟩,
    ⟨(some 12), (.bin .geq (.t 11) (.k (I (-9)))), (some (9, true))⟩,
    ⟨(some 13), (.pick (.t 9) (.t 12) (.k (B false))), none⟩,
    ⟨(some 14), (.mv (.t 13)), none⟩,
    ⟨(some 15), (.mv (.t 0)), (some (14, true))⟩,
    ⟨(some 16), (.call (.k (.fn (.func 101) [] [])) [(.t 15)]), (some (14, true))⟩,
    ⟨(some 17), (.bin .leq (.t 16) (.k (I 9))), (some (14, true))⟩,
    ⟨(some 18), (.pick (.t 14) (.t 17) (.k (B false))), none⟩,
    ⟨(some 4), (.mv (.t 18)), none⟩])
  .ret))
def c109 : ICode := b109
theorem w109 : W x Q c109 ks fr H ms = W x Q b109 ks fr H ms := rfl
def r109 : List IRes := [(.tmp 4)]
theorem t109 : Try.f109.body.bind (trCode Try.prog Try.f109.ntmps) = some (strip c109) := by kernel_rfl
theorem q109 : trRes Try.prog Try.f109.results.toList = some r109 := by kernel_rfl
theorem fn109 : Try.prog.funcs[109]? = some Try.f109 := by kernel_rfl
theorem nn109 : (Try.f109.name == "runtime.NumGoroutine") = false := by kernel_rfl
theorem nt109 : Try.f109.ntmps = 19 := by kernel_rfl
abbrev b110 : ICode :=
  (.seq (.ops [⟨(some 4), (.box (.t 0)), none⟩])
  (.seq (.draw 0 [] (.early 1 ⟨(some 7), (.load true 4 (.t 1)), none⟩
    (.early 1 ⟨(some 8), (.load true 4 (.t 4)), none⟩
    (.early 1 ⟨(some 9), (.call (.k (.fn (.func 82) [] [])) [(.t 7), (.t 8)]), none⟩
    (.early 1 ⟨(some 10), (.load true 4 (.t 1)), none⟩
    (.early 1 ⟨(some 11), (.load true 4 (.t 2)), none⟩
    (.step 0 0 ⟨(some 12), (.call (.k (.fn (.func 82) [] [])) [(.t 10), (.t 11)]), none⟩
    (.early 0 ⟨(some 5), (.mv (.t 9)), none⟩
    (.early 0 ⟨(some 6), (.mv (.t 12)), none⟩
    .done)))))))))
  (.keep [2, 3, 4, 5, 6] (.seq (.draw 0 [] (.early 1 ⟨(some 13), (.mv (.t 5)), none⟩
    (.early 1 ⟨(some 14), (.mv (.t 6)), none⟩
    (.early 0 ⟨(some 15), (.bin .lss (.t 13) (.t 14)), none⟩
    (.early 0 ⟨(some 16), (.mv (.t 15)), none⟩
    (.early 1 ⟨(some 17), (.mv (.t 5)), (some (16, false))⟩
    (.early 1 ⟨(some 18), (.mv (.t 6)), (some (16, false))⟩
    (.early 0 ⟨(some 19), (.bin .eql (.t 17) (.t 18)), (some (16, false))⟩
    (.early 0 ⟨(some 20), (.mv (.t 19)), (some (16, false))⟩
    (.early 0 ⟨(some 21), (.load false 1 (.t 3)), (some (20, true))⟩
    (.early 0 ⟨(some 22), (.pick (.t 20) (.t 21) (.k (B false))), (some (16, false))⟩
    (.early 0 ⟨(some 23), (.mv (.t 22)), (some (16, false))⟩
    (.early 1 ⟨(some 24), (.slP 4 1 (.t 4) none none), (some (23, true))⟩
    (.early 1 ⟨(some 25), (.slP 4 1 (.t 2) none none), (some (23, true))⟩
    (.step 0 0 ⟨(some 26), (.call (.k (.fn (.func 41) [] [])) [(.t 24), (.t 25)]), (some (23, true))⟩
    (.early 0 ⟨(some 27), (.bin .lss (.t 26) (.k (I 0))), (some (23, true))⟩
    (.early 0 ⟨(some 28), (.pick (.t 23) (.t 27) (.k (B false))), (some (16, false))⟩
    (.early 0 ⟨(some 29), (.pick (.t 16) (.k (B true)) (.t 28)), none⟩
    .done))))))))))))))))))
  (.keep [2, 3, 4, 29] (.cond (.t 29)
    (.ops [⟨(some 30), (.load true 4 (.t 4)), none⟩,
      ⟨none, (.store 4 (.t 2) (.t 30)), none⟩,
      ⟨none, (.store 1 (.t 3) (.k (B true))), none⟩])
    .skip))))))
def c110 : ICode := b110
theorem w110 : W x Q c110 ks fr H ms = W x Q b110 ks fr H ms := rfl
def r110 : List IRes := []
theorem t110 : Try.f110.body.bind (trCode Try.prog Try.f110.ntmps) = some (strip c110) := by kernel_rfl
theorem q110 : trRes Try.prog Try.f110.results.toList = some r110 := by kernel_rfl
theorem fn110 : Try.prog.funcs[110]? = some Try.f110 := by kernel_rfl
theorem nn110 : (Try.f110.name == "runtime.NumGoroutine") = false := by kernel_rfl
theorem nt110 : Try.f110.ntmps = 31 := by kernel_rfl
end Go.Proofs.Ytipfjfmdjmaflaa
