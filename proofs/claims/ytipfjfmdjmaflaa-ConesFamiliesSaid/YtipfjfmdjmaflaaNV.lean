/- The code of some functions of the program, cleaned: printed by a program of mine, checked here; The code of some functions of the program, cleaned: printed by a program of mine, checked here. -/
import Derived.Test.YtipfjfmdjmaflaaProg
import Derived.Test.YtipfjfmdjmaflaaAS
import Derived.Test.YtipfjfmdjmaflaaKA
import Derived.KernelRfl
namespace Go.Proofs.Ytipfjfmdjmaflaa
open Go.Abs AVal
variable {x : Cx} {Q : QT} {ks : List Kont} {fr : Fr} {H : AHeap} {ms : List Nat}
/- live: [0, 1, 2, 3, 11, 44, 45, 46] -/
/- live: [3, 7, 13, 16, 123, 124, 125, 134, 135, 136] -/
/- live: [3, 7, 13, 123, 124, 125] -/
/- live: [0, 3, 5, 7, 9, 81, 82, 83] -/
abbrev b16 : ICode :=
  (.seq (.ops [⟨(some 4), (.mv (.k (B false))), none⟩])
  (.seq (.ops [⟨(some 11), (.mv (.t 0)), none⟩,
    ⟨(some 12), (.call (.k (.fn (.func 18) [] [])) [(.t 11)]), none⟩,
    ⟨(some 13), (.mv (.t 1)), none⟩,
    ⟨(some 14), (.call (.k (.fn (.func 19) [] [])) [(.t 13)]), none⟩,
    ⟨(some 15), (.call (.k (.fn (.func 59) [] [])) [(.t 12), (.t 14)]), none⟩,
    ⟨(some 10), (.mv (.t 15)), none⟩,
    ⟨(some 16), (.ext (.t 10) 0), none⟩,
    ⟨(some 17), (.ext (.t 10) 1), none⟩,
    ⟨(some 5), (.mv (.t 16)), none⟩,
    ⟨(some 6), (.mv (.t 17)), none⟩])
  (.seq (.ops [⟨(some 19), (.mv (.t 0)), none⟩,
    ⟨(some 20), (.call (.k (.fn (.func 18) [] [])) [(.t 19)]), none⟩,
    ⟨(some 21), (.mv (.t 1)), none⟩,
    ⟨(some 22), (.call (.k (.fn (.func 19) [] [])) [(.t 21)]), none⟩,
    ⟨(some 23), (.call (.k (.fn (.func 58) [] [])) [(.t 20), (.t 22)]), none⟩,
    ⟨(some 18), (.mv (.t 23)), none⟩,
    ⟨(some 24), (.ext (.t 18) 0), none⟩,
    ⟨(some 25), (.ext (.t 18) 1), none⟩,
    ⟨(some 7), (.mv (.t 24)), none⟩,
    ⟨(some 8), (.mv (.t 25)), none⟩])
  (.seq (.seq (.ops [⟨(some 26), (.mv (.t 0)), none⟩,
    ⟨(some 27), (.mv (.t 1)), none⟩,
    ⟨(some 28), (.call (.k (.fn (.func 21) [] [])) [(.t 26), (.t 27), (.k (I 0)), (.k (I 6))]), none⟩,
    ⟨(some 29), (.un .not (.t 28)), none⟩])
  (.cond (.t 29)
    (.seq (.ops [⟨(some 30), (.mv (.t 5)), none⟩,
      ⟨(some 31), (.len (.t 30)), none⟩,
      ⟨(some 32), (.bin .eql (.t 31) (.k (I 0))), none⟩,
      ⟨(some 33), (.mv (.t 32)), none⟩,
      ⟨(some 34), (.mv (.t 7)), (some (33, true))⟩,
      ⟨(some 35), (.bin .eql (.t 34) (.k (I 0))), (some (33, true))⟩,
      ⟨(some 36), (.pick (.t 33) (.t 35) (.k (B false))), none⟩,
      ⟨(some 37), (.mv (.t 36)), none⟩,
      ⟨(some 38), (.mv (.t 6)), (some (37, true))⟩,
      ⟨(some 39), (.bin .eql (.t 38) (.k (I 2))), (some (37, true))⟩,
      ⟨(some 40), (.pick (.t 37) (.t 39) (.k (B false))), none⟩,
      ⟨(some 41), (.mv (.t 40)), none⟩,
      ⟨(some 42), (.mv (.t 8)), (some (41, true))⟩,
      ⟨(some 43), (.bin .eql (.t 42) (.k (I 2))), (some (41, true))⟩,
      ⟨(some 44), (.pick (.t 41) (.t 43) (.k (B false))), none⟩,
      ⟨(some 45), (.mv (.t 44)), none⟩,
      ⟨(some 46), (.call (.k (.fn (.func 25) [] [])) []), (some (45, true))⟩,
      ⟨(some 47), (.pick (.t 45) (.t 46) (.k (B false))), none⟩,
      ⟨(some 4), (.mv (.t 47)), none⟩])
    .ret)
    .skip))
  (.seq (.seq (.ops [⟨(some 48), (.mv (.t 0)), none⟩,
    ⟨(some 49), (.call (.k (.fn (.func 34) [] [])) [(.t 48)]), none⟩,
    ⟨(some 50), (.len (.t 49)), none⟩,
    ⟨(some 51), (.bin .gtr (.t 50) (.k (I 0))), none⟩])
  (.cond (.t 51)
    (.seq (.ops [⟨(some 52), (.mv (.t 5)), none⟩,
      ⟨(some 53), (.len (.t 52)), none⟩,
      ⟨(some 54), (.bin .eql (.t 53) (.k (I 0))), none⟩,
      ⟨(some 55), (.mv (.t 54)), none⟩,
      ⟨(some 56), (.mv (.t 7)), (some (55, true))⟩,
      ⟨(some 57), (.bin .eql (.t 56) (.k (I 0))), (some (55, true))⟩,
      ⟨(some 58), (.pick (.t 55) (.t 57) (.k (B false))), none⟩,
      ⟨(some 59), (.mv (.t 58)), none⟩,
      ⟨(some 60), (.mv (.t 6)), (some (59, true))⟩,
      ⟨(some 61), (.bin .eql (.t 60) (.k (I 5))), (some (59, true))⟩,
      ⟨(some 62), (.pick (.t 59) (.t 61) (.k (B false))), none⟩,
      ⟨(some 63), (.mv (.t 62)), none⟩,
      ⟨(some 64), (.mv (.t 8)), (some (63, true))⟩,
      ⟨(some 65), (.bin .eql (.t 64) (.k (I 5))), (some (63, true))⟩,
      ⟨(some 66), (.pick (.t 63) (.t 65) (.k (B false))), none⟩,
      ⟨(some 67), (.mv (.t 66)), none⟩,
      ⟨(some 68), (.call (.k (.fn (.func 25) [] [])) []), (some (67, true))⟩,
      ⟨(some 69), (.pick (.t 67) (.t 68) (.k (B false))), none⟩,
      ⟨(some 4), (.mv (.t 69)), none⟩])
    .ret)
    .skip))
  (.seq (.ops [⟨(some 70), (.mv (.t 0)), none⟩,
    ⟨(some 71), (.mv (.t 1)), none⟩,
    ⟨(some 72), (.call (.k (.fn (.func 61) [] [])) [(.t 70), (.t 71)]), none⟩,
    ⟨(some 9), (.mv (.t 72)), none⟩])
  (.seq (.ops [⟨(some 73), (.mv (.t 5)), none⟩,
    ⟨(some 74), (.mv (.t 9)), none⟩,
    ⟨(some 75), (.call (.k (.fn (.func 48) [] [])) [(.t 73), (.t 74)]), none⟩,
    ⟨(some 76), (.mv (.t 75)), none⟩,
    ⟨(some 77), (.mv (.t 7)), (some (76, true))⟩,
    ⟨(some 78), (.mv (.t 9)), (some (76, true))⟩,
    ⟨(some 79), (.len (.t 78)), (some (76, true))⟩,
    ⟨(some 80), (.bin .eql (.t 77) (.t 79)), (some (76, true))⟩,
    ⟨(some 81), (.pick (.t 76) (.t 80) (.k (B false))), none⟩,
    ⟨(some 82), (.mv (.t 81)), none⟩,
    ⟨(some 83), (.mv (.t 6)), (some (82, true))⟩,
    ⟨(some 84), (.bin .eql (.t 83) (.k (I 0))), (some (82, true))⟩,
    ⟨(some 85), (.pick (.t 82) (.t 84) (.k (B false))), none⟩,
    ⟨(some 86), (.mv (.t 85)), none⟩,
    ⟨(some 87), (.mv (.t 8)), (some (86, true))⟩,
    ⟨(some 88), (.bin .eql (.t 87) (.k (I 0))), (some (86, true))⟩,
    ⟨(some 89), (.pick (.t 86) (.t 88) (.k (B false))), none⟩,
    ⟨(some 90), (.mv (.t 89)), none⟩,
    ⟨(some 91), (.call (.k (.fn (.func 25) [] [])) []), (some (90, true))⟩,
    ⟨(some 92), (.pick (.t 90) (.t 91) (.k (B false))), none⟩,
    ⟨(some 4), (.mv (.t 92)), none⟩])
  .ret)))))))
def c16 : ICode := b16
theorem w16 : W x Q c16 ks fr H ms = W x Q b16 ks fr H ms := rfl
def r16 : List IRes := [(.tmp 4)]
theorem t16 : Try.f16.body.bind (trCode Try.prog Try.f16.ntmps) = some (strip c16) := by kernel_rfl
theorem q16 : trRes Try.prog Try.f16.results.toList = some r16 := by kernel_rfl
theorem fn16 : Try.prog.funcs[16]? = some Try.f16 := by kernel_rfl
theorem nn16 : (Try.f16.name == "runtime.NumGoroutine") = false := by kernel_rfl
theorem nt16 : Try.f16.ntmps = 93 := by kernel_rfl
end Go.Proofs.Ytipfjfmdjmaflaa
namespace Go.Proofs.Ytipfjfmdjmaflaa
open Go.Abs AVal
variable {x : Cx} {Q : QT} {ks : List Kont} {fr : Fr} {H : AHeap} {ms : List Nat}
/- live: [0, 1, 2, 7, 9, 47] -/
/- live: [8, 9] -/
/- live: [1, 2, 8, 13, 14, 15] -/
/- live: [2, 7, 15, 16, 17] -/
/- live: [1, 5, 8, 9, 10] -/
abbrev b61T3 : ICode :=
  (.keep [6] (.seq (.ops [⟨(some 52), (.mv (.t 6)), none⟩,
    ⟨(some 4), (.mv (.t 52)), none⟩])
  .ret))
def c61T3 : ICode := b61T3
theorem w61T3 : W x Q c61T3 ks fr H ms = W x Q b61T3 ks fr H ms := rfl
abbrev b61T2 : ICode :=
  (.keep [5, 6, 7, 8] (.ops [⟨(some 23), (.mv (.t 8)), none⟩,
    ⟨(some 24), (.bin .add (.t 23) (.k (I 1))), none⟩,
    ⟨(some 8), (.mv (.t 24)), none⟩]))
def c61T2 : ICode := b61T2
theorem w61T2 : W x Q c61T2 ks fr H ms = W x Q b61T2 ks fr H ms := rfl
/- live: [5, 6, 7, 8, 25, 26, 27] -/
abbrev b61L1 : ICode :=
  (.seq (.ops [⟨(some 28), (.bin .lss (.t 27) (.t 26)), none⟩])
  (.seq (.cond (.t 28)
    .skip
    (.exit 2))
  (.seq (.block 3 (.seq (.ops [⟨(some 29), (.ixS 1 (.t 25) (.t 27)), none⟩,
    ⟨(some 30), (.load false 1 (.t 29)), none⟩,
    ⟨(some 10), (.mv (.t 30)), none⟩])
  (.seq (.ops [⟨(some 31), (.mv (.t 7)), none⟩,
    ⟨(some 32), (.mv (.t 8)), none⟩,
    ⟨(some 33), (.ixS 1 (.t 31) (.t 32)), none⟩,
    ⟨(some 34), (.load false 1 (.t 33)), none⟩,
    ⟨(some 35), (.mv (.t 10)), none⟩,
    ⟨(some 36), (.call (.k (.fn (.func 79) [] [])) [(.t 34), (.t 35)]), none⟩,
    ⟨(some 11), (.mv (.t 36)), none⟩])
  (.seq (.seq (.ops [⟨(some 37), (.mv (.t 11)), none⟩,
    ⟨(some 38), (.call (.k (.fn (.func 24) [] [])) [(.t 37), (.k (I 0)), (.k (I 1000000))]), none⟩,
    ⟨(some 39), (.un .not (.t 38)), none⟩])
  (.cond (.t 39)
    (.exit 3)
    .skip))
  (.seq (.ops [⟨(some 12), (.mv (.k (B false))), none⟩])
  (.seq (.ops [⟨(some 41), (.mv (.t 6)), none⟩,
    ⟨(some 42), (.mv (.t 11)), none⟩,
    ⟨(some 43), (.call (.k (.fn (.func 95) [] [])) [(.t 41), (.t 42)]), none⟩,
    ⟨(some 40), (.mv (.t 43)), none⟩,
    ⟨(some 44), (.ext (.t 40) 0), none⟩,
    ⟨(some 45), (.ext (.t 40) 1), none⟩,
    ⟨(some 6), (.mv (.t 44)), none⟩,
    ⟨(some 12), (.mv (.t 45)), none⟩])
  (.seq (.ops [⟨(some 46), (.mv (.t 12)), none⟩])
  (.cond (.t 46)
    (.ops [⟨(some 47), (.mv (.t 7)), none⟩,
      ⟨(some 48), (.mv (.t 11)), none⟩,
      ⟨(some 49), (.bslice 1 1 [nilSl] [(0, 1, (.t 48))]), none⟩,
      ⟨(some 50), (.append 1 24 (.t 47) (.t 49)), none⟩,
      ⟨(some 7), (.mv (.t 50)), none⟩])
    .skip))))))))
  (.ops [⟨(some 51), (.bin .add (.t 27) (.k (I 1))), none⟩,
    ⟨(some 27), (.mv (.t 51)), none⟩]))))
def c61L1 : ICode := b61L1
theorem w61L1 : W x Q c61L1 ks fr H ms = W x Q b61L1 ks fr H ms := rfl
/- live: [5, 6, 7, 8] -/
abbrev b61L0 : ICode :=
  (.seq (.seq (.ops [⟨(some 19), (.mv (.t 8)), none⟩,
    ⟨(some 20), (.mv (.t 7)), none⟩,
    ⟨(some 21), (.len (.t 20)), none⟩,
    ⟨(some 22), (.bin .lss (.t 19) (.t 21)), none⟩])
  (.cond (.t 22)
    .skip
    (.exit 0)))
  (.seq (.block 1 (.seq (.ops [⟨(some 25), (.mv (.t 5)), none⟩,
    ⟨(some 26), (.len (.t 25)), none⟩,
    ⟨(some 27), (.mv (.k (I 0))), none⟩])
  (.block 2 (.loop c61L1))))
  c61T2))
def c61L0 : ICode := b61L0
theorem w61L0 : W x Q c61L0 ks fr H ms = W x Q b61L0 ks fr H ms := rfl
abbrev b61 : ICode :=
  (.seq (.ops [⟨(some 4), (.mv (.k nilSl)), none⟩])
  (.seq (.ops [⟨(some 13), (.mv (.t 0)), none⟩,
    ⟨(some 14), (.call (.k (.fn (.func 50) [] [])) [(.t 13)]), none⟩,
    ⟨(some 5), (.mv (.t 14)), none⟩])
  (.seq (.ops [⟨(some 15), (.mv (.t 1)), none⟩,
    ⟨(some 16), (.bslice 1 1 [nilSl] [(0, 1, (.t 15))]), none⟩,
    ⟨(some 6), (.mv (.t 16)), none⟩])
  (.seq (.ops [⟨(some 17), (.mv (.t 1)), none⟩,
    ⟨(some 18), (.bslice 1 1 [nilSl] [(0, 1, (.t 17))]), none⟩,
    ⟨(some 7), (.mv (.t 18)), none⟩])
  (.seq (.seq (.ops [⟨(some 8), (.mv (.k (I 0))), none⟩])
  (.block 0 (.loop c61L0)))
  c61T3)))))
def c61 : ICode := b61
theorem w61 : W x Q c61 ks fr H ms = W x Q b61 ks fr H ms := rfl
def r61 : List IRes := [(.tmp 4)]
theorem t61 : Try.f61.body.bind (trCode Try.prog Try.f61.ntmps) = some (strip c61) := by kernel_rfl
theorem q61 : trRes Try.prog Try.f61.results.toList = some r61 := by kernel_rfl
theorem fn61 : Try.prog.funcs[61]? = some Try.f61 := by kernel_rfl
theorem nn61 : (Try.f61.name == "runtime.NumGoroutine") = false := by kernel_rfl
theorem nt61 : Try.f61.ntmps = 53 := by kernel_rfl
end Go.Proofs.Ytipfjfmdjmaflaa
