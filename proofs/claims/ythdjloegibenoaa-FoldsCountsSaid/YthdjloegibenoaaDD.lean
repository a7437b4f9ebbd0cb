/- The code of some functions of the program, cleaned: printed by a program of mine, checked here. -/
import Derived.Test.YthdjloegibenoaaProg
import Derived.Test.YthdjloegibenoaaAS
import Derived.KernelRfl
import Derived.Test.YthdjloegibenoaaDC
namespace Go.Proofs.Ythdjloegibenoaa
open Go.Abs AVal
def c14 : ICode :=
  (.seq (.ops [⟨(some 6), (.mv (.k (B false))), none⟩])
  (.seq (.ops [⟨(some 16), (.mv (.t 0)), none⟩,
    ⟨(some 17), (.mv (.t 1)), none⟩,
    ⟨(some 18), (.call (.k (.fn (.func 33) [] [])) [(.t 16), (.t 17)]), none⟩,
    ⟨(some 15), (.mv (.t 18)), none⟩,
    ⟨(some 19), (.ext (.t 15) 0), none⟩,
    ⟨(some 20), (.ext (.t 15) 1), none⟩,
    ⟨(some 7), (.mv (.t 19)), none⟩,
    ⟨(some 8), (.mv (.t 20)), none⟩])
  (.seq (.seq (.ops [⟨(some 21), (.mv (.t 8)), none⟩,
    ⟨(some 22), (.bin .neq (.t 21) (.k (I 0))), none⟩,
    ⟨(some 23), (.mv (.t 22)), none⟩,
    ⟨(some 24), (.mv (.t 0)), (some (23, false))⟩,
    ⟨(some 25), (.bin .lss (.t 24) (.k (I 1))), (some (23, false))⟩,
    ⟨(some 26), (.pick (.t 23) (.k (B true)) (.t 25)), none⟩,
    ⟨(some 27), (.mv (.t 26)), none⟩,
    ⟨(some 28), (.mv (.t 0)), (some (27, false))⟩,
    ⟨(some 29), (.bin .gtr (.t 28) (.k (I 7))), (some (27, false))⟩,
    ⟨(some 30), (.pick (.t 27) (.k (B true)) (.t 29)), none⟩,
    ⟨(some 31), (.mv (.t 30)), none⟩,
    ⟨(some 32), (.mv (.t 1)), (some (31, false))⟩,
    ⟨(some 33), (.bin .lss (.t 32) (.k (I 0))), (some (31, false))⟩,
    ⟨(some 34), (.pick (.t 31) (.k (B true)) (.t 33)), none⟩,
    ⟨(some 35), (.mv (.t 34)), none⟩,
    ⟨(some 36), (.mv (.t 1)), (some (35, false))⟩,
    ⟨(some 37), (.mv (.t 0)), (some (35, false))⟩,
    ⟨(some 38), (.bin .sub (.t 37) (.k (I 1))), (some (35, false))⟩,
    ⟨(some 39), (.bin .shl (.k (I 1)) (.t 38)), (some (35, false))⟩,
    ⟨(some 40), (.bin .geq (.t 36) (.t 39)), (some (35, false))⟩,
    ⟨(some 41), (.pick (.t 35) (.k (B true)) (.t 40)), none⟩])
  (.cond (.t 41)
    (.seq (.ops [⟨(some 42), (.mv (.t 8)), none⟩,
      ⟨(some 43), (.bin .eql (.t 42) (.k (I 2))), none⟩,
      ⟨(some 44), (.mv (.t 43)), none⟩,
      ⟨(some 45), (.call (.k (.fn (.func 18) [] [])) []), (some (44, true))⟩,
      ⟨(some 46), (.pick (.t 44) (.t 45) (.k (B false))), none⟩,
      ⟨(some 6), (.mv (.t 46)), none⟩])
    .ret)
    .skip))
  (.seq (.ops [⟨(some 48), (.mv (.t 7)), none⟩,
    ⟨(some 49), (.call (.k (.fn (.func 44) [] [])) [(.t 48)]), none⟩,
    ⟨(some 50), (.call (.k (.fn (.func 15) [] [])) [(.t 49)]), none⟩,
    ⟨(some 47), (.mv (.t 50)), none⟩,
    ⟨(some 51), (.ext (.t 47) 0), none⟩,
    ⟨(some 52), (.ext (.t 47) 1), none⟩,
    ⟨(some 9), (.mv (.t 51)), none⟩,
    ⟨(some 10), (.mv (.t 52)), none⟩])
  (.seq (.ops [⟨(some 54), (.mv (.t 7)), none⟩,
    ⟨(some 55), (.call (.k (.fn (.func 44) [] [])) [(.t 54)]), none⟩,
    ⟨(some 56), (.call (.k (.fn (.func 42) [] [])) [(.t 55)]), none⟩,
    ⟨(some 53), (.mv (.t 56)), none⟩,
    ⟨(some 57), (.ext (.t 53) 0), none⟩,
    ⟨(some 58), (.ext (.t 53) 1), none⟩,
    ⟨(some 11), (.mv (.t 57)), none⟩,
    ⟨(some 12), (.mv (.t 58)), none⟩])
  (.seq (.seq (.ops [⟨(some 59), (.mv (.t 9)), none⟩,
    ⟨(some 60), (.un .not (.t 59)), none⟩,
    ⟨(some 61), (.mv (.t 60)), none⟩,
    ⟨(some 62), (.mv (.t 10)), (some (61, false))⟩,
    ⟨(some 63), (.bin .neq (.t 62) (.k (I 0))), (some (61, false))⟩,
    ⟨(some 64), (.pick (.t 61) (.k (B true)) (.t 63)), none⟩,
    ⟨(some 65), (.mv (.t 64)), none⟩,
    ⟨(some 66), (.mv (.t 12)), (some (65, false))⟩,
    ⟨(some 67), (.bin .neq (.t 66) (.k (I 0))), (some (65, false))⟩,
    ⟨(some 68), (.pick (.t 65) (.k (B true)) (.t 67)), none⟩,
    ⟨(some 69), (.mv (.t 68)), none⟩,
    ⟨(some 70), (.mv (.t 11)), (some (69, false))⟩,
    ⟨(some 71), (.mv (.t 1)), (some (69, false))⟩,
    ⟨(some 72), (.bin .neq (.t 70) (.t 71)), (some (69, false))⟩,
    ⟨(some 73), (.pick (.t 69) (.k (B true)) (.t 72)), none⟩,
    ⟨(some 74), (.mv (.t 73)), none⟩,
    ⟨(some 75), (.mv (.t 7)), (some (74, false))⟩,
    ⟨(some 76), (.len (.t 75)), (some (74, false))⟩,
    ⟨(some 77), (.mv (.t 0)), (some (74, false))⟩,
    ⟨(some 78), (.bin .neq (.t 76) (.t 77)), (some (74, false))⟩,
    ⟨(some 79), (.pick (.t 74) (.k (B true)) (.t 78)), none⟩])
  (.cond (.t 79)
    (.seq (.ops [⟨(some 6), (.mv (.k (B false))), none⟩])
    .ret)
    .skip))
  (.seq (.ops [⟨(some 81), (.mv (.t 2)), none⟩,
    ⟨(some 82), (.call (.k (.fn (.func 16) [] [])) [(.t 81)]), none⟩,
    ⟨(some 83), (.call (.k (.fn (.func 42) [] [])) [(.t 82)]), none⟩,
    ⟨(some 80), (.mv (.t 83)), none⟩,
    ⟨(some 84), (.ext (.t 80) 0), none⟩,
    ⟨(some 85), (.ext (.t 80) 1), none⟩,
    ⟨(some 13), (.mv (.t 84)), none⟩,
    ⟨(some 14), (.mv (.t 85)), none⟩])
  (.seq (.ops [⟨(some 86), (.mv (.t 14)), none⟩,
    ⟨(some 87), (.bin .neq (.t 86) (.k (I 0))), none⟩,
    ⟨(some 88), (.mv (.t 87)), none⟩,
    ⟨(some 89), (.mv (.t 2)), (some (88, false))⟩,
    ⟨(some 90), (.len (.t 89)), (some (88, false))⟩,
    ⟨(some 91), (.mv (.t 0)), (some (88, false))⟩,
    ⟨(some 92), (.bin .neq (.t 90) (.t 91)), (some (88, false))⟩,
    ⟨(some 93), (.pick (.t 88) (.k (B true)) (.t 92)), none⟩,
    ⟨(some 94), (.mv (.t 93)), none⟩,
    ⟨(some 95), (.mv (.t 13)), (some (94, false))⟩,
    ⟨(some 96), (.mv (.t 1)), (some (94, false))⟩,
    ⟨(some 97), (.bin .neq (.t 95) (.t 96)), (some (94, false))⟩,
    ⟨(some 98), (.pick (.t 94) (.k (B true)) (.t 97)), none⟩,
    ⟨(some 99), (.mv (.t 98)), none⟩,
    ⟨(some 100), (.mv (.t 7)), (some (99, false))⟩,
    ⟨(some 101), (.mv (.t 2)), (some (99, false))⟩,
    ⟨(some 102), (.call (.k (.fn (.func 47) [] [])) [(.t 100), (.t 101)]), (some (99, false))⟩,
    ⟨(some 103), (.bin .leq (.t 102) (.k (I 0))), (some (99, false))⟩,
    ⟨(some 104), (.pick (.t 99) (.k (B true)) (.t 103)), none⟩,
    ⟨(some 105), (.mv (.t 104)), none⟩,
    ⟨(some 106), (.call (.k (.fn (.func 18) [] [])) []), (some (105, true))⟩,
    ⟨(some 107), (.pick (.t 105) (.t 106) (.k (B false))), none⟩,
    ⟨(some 6), (.mv (.t 107)), none⟩])
  .ret))))))))
theorem w14 {x : Cx} {Q : QT} {ks : List Kont} {fr : Fr} {H : AHeap} {ms : List Nat} : W x Q c14 ks fr H ms = W x Q (.seq (.ops [⟨(some 6), (.mv (.k (B false))), none⟩])
    (.seq (.ops [⟨(some 16), (.mv (.t 0)), none⟩,
      ⟨(some 17), (.mv (.t 1)), none⟩,
      ⟨(some 18), (.call (.k (.fn (.func 33) [] [])) [(.t 16), (.t 17)]), none⟩,
      ⟨(some 15), (.mv (.t 18)), none⟩,
      ⟨(some 19), (.ext (.t 15) 0), none⟩,
      ⟨(some 20), (.ext (.t 15) 1), none⟩,
      ⟨(some 7), (.mv (.t 19)), none⟩,
      ⟨(some 8), (.mv (.t 20)), none⟩])
    (.seq (.seq (.ops [⟨(some 21), (.mv (.t 8)), none⟩,
      ⟨(some 22), (.bin .neq (.t 21) (.k (I 0))), none⟩,
      ⟨(some 23), (.mv (.t 22)), none⟩,
      ⟨(some 24), (.mv (.t 0)), (some (23, false))⟩,
      ⟨(some 25), (.bin .lss (.t 24) (.k (I 1))), (some (23, false))⟩,
      ⟨(some 26), (.pick (.t 23) (.k (B true)) (.t 25)), none⟩,
      ⟨(some 27), (.mv (.t 26)), none⟩,
      ⟨(some 28), (.mv (.t 0)), (some (27, false))⟩,
      ⟨(some 29), (.bin .gtr (.t 28) (.k (I 7))), (some (27, false))⟩,
      ⟨(some 30), (.pick (.t 27) (.k (B true)) (.t 29)), none⟩,
      ⟨(some 31), (.mv (.t 30)), none⟩,
      ⟨(some 32), (.mv (.t 1)), (some (31, false))⟩,
      ⟨(some 33), (.bin .lss (.t 32) (.k (I 0))), (some (31, false))⟩,
      ⟨(some 34), (.pick (.t 31) (.k (B true)) (.t 33)), none⟩,
      ⟨(some 35), (.mv (.t 34)), none⟩,
      ⟨(some 36), (.mv (.t 1)), (some (35, false))⟩,
      ⟨(some 37), (.mv (.t 0)), (some (35, false))⟩,
      ⟨(some 38), (.bin .sub (.t 37) (.k (I 1))), (some (35, false))⟩,
      ⟨(some 39), (.bin .shl (.k (I 1)) (.t 38)), (some (35, false))⟩,
      ⟨(some 40), (.bin .geq (.t 36) (.t 39)), (some (35, false))⟩,
      ⟨(some 41), (.pick (.t 35) (.k (B true)) (.t 40)), none⟩])
    (.cond (.t 41)
      (.seq (.ops [⟨(some 42), (.mv (.t 8)), none⟩,
        ⟨(some 43), (.bin .eql (.t 42) (.k (I 2))), none⟩,
        ⟨(some 44), (.mv (.t 43)), none⟩,
        ⟨(some 45), (.call (.k (.fn (.func 18) [] [])) []), (some (44, true))⟩,
        ⟨(some 46), (.pick (.t 44) (.t 45) (.k (B false))), none⟩,
        ⟨(some 6), (.mv (.t 46)), none⟩])
      .ret)
      .skip))
    (.seq (.ops [⟨(some 48), (.mv (.t 7)), none⟩,
      ⟨(some 49), (.call (.k (.fn (.func 44) [] [])) [(.t 48)]), none⟩,
      ⟨(some 50), (.call (.k (.fn (.func 15) [] [])) [(.t 49)]), none⟩,
      ⟨(some 47), (.mv (.t 50)), none⟩,
      ⟨(some 51), (.ext (.t 47) 0), none⟩,
      ⟨(some 52), (.ext (.t 47) 1), none⟩,
      ⟨(some 9), (.mv (.t 51)), none⟩,
      ⟨(some 10), (.mv (.t 52)), none⟩])
    (.seq (.ops [⟨(some 54), (.mv (.t 7)), none⟩,
      ⟨(some 55), (.call (.k (.fn (.func 44) [] [])) [(.t 54)]), none⟩,
      ⟨(some 56), (.call (.k (.fn (.func 42) [] [])) [(.t 55)]), none⟩,
      ⟨(some 53), (.mv (.t 56)), none⟩,
      ⟨(some 57), (.ext (.t 53) 0), none⟩,
      ⟨(some 58), (.ext (.t 53) 1), none⟩,
      ⟨(some 11), (.mv (.t 57)), none⟩,
      ⟨(some 12), (.mv (.t 58)), none⟩])
    (.seq (.seq (.ops [⟨(some 59), (.mv (.t 9)), none⟩,
      ⟨(some 60), (.un .not (.t 59)), none⟩,
      ⟨(some 61), (.mv (.t 60)), none⟩,
      ⟨(some 62), (.mv (.t 10)), (some (61, false))⟩,
      ⟨(some 63), (.bin .neq (.t 62) (.k (I 0))), (some (61, false))⟩,
      ⟨(some 64), (.pick (.t 61) (.k (B true)) (.t 63)), none⟩,
      ⟨(some 65), (.mv (.t 64)), none⟩,
      ⟨(some 66), (.mv (.t 12)), (some (65, false))⟩,
      ⟨(some 67), (.bin .neq (.t 66) (.k (I 0))), (some (65, false))⟩,
      ⟨(some 68), (.pick (.t 65) (.k (B true)) (.t 67)), none⟩,
      ⟨(some 69), (.mv (.t 68)), none⟩,
      ⟨(some 70), (.mv (.t 11)), (some (69, false))⟩,
      ⟨(some 71), (.mv (.t 1)), (some (69, false))⟩,
      ⟨(some 72), (.bin .neq (.t 70) (.t 71)), (some (69, false))⟩,
      ⟨(some 73), (.pick (.t 69) (.k (B true)) (.t 72)), none⟩,
      ⟨(some 74), (.mv (.t 73)), none⟩,
      ⟨(some 75), (.mv (.t 7)), (some (74, false))⟩,
      ⟨(some 76), (.len (.t 75)), (some (74, false))⟩,
      ⟨(some 77), (.mv (.t 0)), (some (74, false))⟩,
      ⟨(some 78), (.bin .neq (.t 76) (.t 77)), (some (74, false))⟩,
      ⟨(some 79), (.pick (.t 74) (.k (B true)) (.t 78)), none⟩])
    (.cond (.t 79)
      (.seq (.ops [⟨(some 6), (.mv (.k (B false))), none⟩])
      .ret)
      .skip))
    (.seq (.ops [⟨(some 81), (.mv (.t 2)), none⟩,
      ⟨(some 82), (.call (.k (.fn (.func 16) [] [])) [(.t 81)]), none⟩,
      ⟨(some 83), (.call (.k (.fn (.func 42) [] [])) [(.t 82)]), none⟩,
      ⟨(some 80), (.mv (.t 83)), none⟩,
      ⟨(some 84), (.ext (.t 80) 0), none⟩,
      ⟨(some 85), (.ext (.t 80) 1), none⟩,
      ⟨(some 13), (.mv (.t 84)), none⟩,
      ⟨(some 14), (.mv (.t 85)), none⟩])
    (.seq (.ops [⟨(some 86), (.mv (.t 14)), none⟩,
      ⟨(some 87), (.bin .neq (.t 86) (.k (I 0))), none⟩,
      ⟨(some 88), (.mv (.t 87)), none⟩,
      ⟨(some 89), (.mv (.t 2)), (some (88, false))⟩,
      ⟨(some 90), (.len (.t 89)), (some (88, false))⟩,
      ⟨(some 91), (.mv (.t 0)), (some (88, false))⟩,
      ⟨(some 92), (.bin .neq (.t 90) (.t 91)), (some (88, false))⟩,
      ⟨(some 93), (.pick (.t 88) (.k (B true)) (.t 92)), none⟩,
      ⟨(some 94), (.mv (.t 93)), none⟩,
      ⟨(some 95), (.mv (.t 13)), (some (94, false))⟩,
      ⟨(some 96), (.mv (.t 1)), (some (94, false))⟩,
      ⟨(some 97), (.bin .neq (.t 95) (.t 96)), (some (94, false))⟩,
      ⟨(some 98), (.pick (.t 94) (.k (B true)) (.t 97)), none⟩,
      ⟨(some 99), (.mv (.t 98)), none⟩,
      ⟨(some 100), (.mv (.t 7)), (some (99, false))⟩,
      ⟨(some 101), (.mv (.t 2)), (some (99, false))⟩,
      ⟨(some 102), (.call (.k (.fn (.func 47) [] [])) [(.t 100), (.t 101)]), (some (99, false))⟩,
      ⟨(some 103), (.bin .leq (.t 102) (.k (I 0))), (some (99, false))⟩,
      ⟨(some 104), (.pick (.t 99) (.k (B true)) (.t 103)), none⟩,
      ⟨(some 105), (.mv (.t 104)), none⟩,
      ⟨(some 106), (.call (.k (.fn (.func 18) [] [])) []), (some (105, true))⟩,
      ⟨(some 107), (.pick (.t 105) (.t 106) (.k (B false))), none⟩,
      ⟨(some 6), (.mv (.t 107)), none⟩])
    .ret)))))))) ks fr H ms := rfl
def r14 : List IRes := [(.tmp 6)]
theorem t14 : Try.f14.body.bind (trCode Try.prog Try.f14.ntmps) = some (strip c14) := by kernel_rfl
theorem q14 : trRes Try.prog Try.f14.results.toList = some r14 := by kernel_rfl
theorem fn14 : Try.prog.funcs[14]? = some Try.f14 := by kernel_rfl
theorem nn14 : (Try.f14.name == "runtime.NumGoroutine") = false := by kernel_rfl
theorem nt14 : Try.f14.ntmps = 108 := by kernel_rfl
def c47T1 : ICode :=
  (.keep [0, 1] (.seq (.seq (.ops [⟨(some 31), (.mv (.t 0)), none⟩,
    ⟨(some 32), (.len (.t 31)), none⟩,
    ⟨(some 33), (.mv (.t 1)), none⟩,
    ⟨(some 34), (.len (.t 33)), none⟩,
    ⟨(some 35), (.bin .lss (.t 32) (.t 34)), none⟩])
  (.cond (.t 35)
    (.seq (.ops [⟨(some 4), (.mv (.k (I (-1)))), none⟩])
    .ret)
    .skip))
  (.seq (.ops [⟨(some 4), (.mv (.k (I 0))), none⟩])
  .ret)))
theorem w47T1 {x : Cx} {Q : QT} {ks : List Kont} {fr : Fr} {H : AHeap} {ms : List Nat} : W x Q c47T1 ks fr H ms = W x Q (.keep [0, 1] (.seq (.seq (.ops [⟨(some 31), (.mv (.t 0)), none⟩,
      ⟨(some 32), (.len (.t 31)), none⟩,
      ⟨(some 33), (.mv (.t 1)), none⟩,
      ⟨(some 34), (.len (.t 33)), none⟩,
      ⟨(some 35), (.bin .lss (.t 32) (.t 34)), none⟩])
    (.cond (.t 35)
      (.seq (.ops [⟨(some 4), (.mv (.k (I (-1)))), none⟩])
      .ret)
      .skip))
    (.seq (.ops [⟨(some 4), (.mv (.k (I 0))), none⟩])
    .ret))) ks fr H ms := rfl
/- live: [0, 1, 9, 10, 11] -/
def c47L0 : ICode :=
  (.seq (.ops [⟨(some 12), (.bin .lss (.t 11) (.t 10)), none⟩])
  (.seq (.cond (.t 12)
    .skip
    (.exit 0))
  (.seq (.block 1 (.seq (.ops [⟨(some 13), (.mv (.t 11)), none⟩,
    ⟨(some 14), (.ixS 1 (.t 9) (.t 11)), none⟩,
    ⟨(some 15), (.load false 1 (.t 14)), none⟩,
    ⟨(some 5), (.mv (.t 13)), none⟩,
    ⟨(some 6), (.mv (.t 15)), none⟩])
  (.seq (.seq (.ops [⟨(some 16), (.mv (.t 5)), none⟩,
    ⟨(some 17), (.mv (.t 1)), none⟩,
    ⟨(some 18), (.len (.t 17)), none⟩,
    ⟨(some 19), (.bin .geq (.t 16) (.t 18)), none⟩])
  (.cond (.t 19)
    (.seq (.ops [⟨(some 4), (.mv (.k (I 1))), none⟩])
    .ret)
    .skip))
  (.seq (.ops [⟨(some 20), (.mv (.t 1)), none⟩,
    ⟨(some 21), (.mv (.t 5)), none⟩,
    ⟨(some 22), (.ixS 1 (.t 20) (.t 21)), none⟩,
    ⟨(some 23), (.load false 1 (.t 22)), none⟩,
    ⟨(some 7), (.mv (.t 23)), none⟩])
  (.seq (.ops [⟨(some 24), (.mv (.t 6)), none⟩,
    ⟨(some 25), (.mv (.t 7)), none⟩,
    ⟨(some 26), (.call (.k (.fn (.func 71) [] [])) [(.t 24), (.t 25)]), none⟩,
    ⟨(some 8), (.mv (.t 26)), none⟩])
  (.seq (.ops [⟨(some 27), (.mv (.t 8)), none⟩,
    ⟨(some 28), (.bin .neq (.t 27) (.k (I 0))), none⟩])
  (.cond (.t 28)
    (.seq (.ops [⟨(some 29), (.mv (.t 8)), none⟩,
      ⟨(some 4), (.mv (.t 29)), none⟩])
    .ret)
    .skip)))))))
  (.ops [⟨(some 30), (.bin .add (.t 11) (.k (I 1))), none⟩,
    ⟨(some 11), (.mv (.t 30)), none⟩]))))
theorem w47L0 {x : Cx} {Q : QT} {ks : List Kont} {fr : Fr} {H : AHeap} {ms : List Nat} : W x Q c47L0 ks fr H ms = W x Q (.seq (.ops [⟨(some 12), (.bin .lss (.t 11) (.t 10)), none⟩])
    (.seq (.cond (.t 12)
      .skip
      (.exit 0))
    (.seq (.block 1 (.seq (.ops [⟨(some 13), (.mv (.t 11)), none⟩,
      ⟨(some 14), (.ixS 1 (.t 9) (.t 11)), none⟩,
      ⟨(some 15), (.load false 1 (.t 14)), none⟩,
      ⟨(some 5), (.mv (.t 13)), none⟩,
      ⟨(some 6), (.mv (.t 15)), none⟩])
    (.seq (.seq (.ops [⟨(some 16), (.mv (.t 5)), none⟩,
      ⟨(some 17), (.mv (.t 1)), none⟩,
      ⟨(some 18), (.len (.t 17)), none⟩,
      ⟨(some 19), (.bin .geq (.t 16) (.t 18)), none⟩])
    (.cond (.t 19)
      (.seq (.ops [⟨(some 4), (.mv (.k (I 1))), none⟩])
      .ret)
      .skip))
    (.seq (.ops [⟨(some 20), (.mv (.t 1)), none⟩,
      ⟨(some 21), (.mv (.t 5)), none⟩,
      ⟨(some 22), (.ixS 1 (.t 20) (.t 21)), none⟩,
      ⟨(some 23), (.load false 1 (.t 22)), none⟩,
      ⟨(some 7), (.mv (.t 23)), none⟩])
    (.seq (.ops [⟨(some 24), (.mv (.t 6)), none⟩,
      ⟨(some 25), (.mv (.t 7)), none⟩,
      ⟨(some 26), (.call (.k (.fn (.func 71) [] [])) [(.t 24), (.t 25)]), none⟩,
      ⟨(some 8), (.mv (.t 26)), none⟩])
    (.seq (.ops [⟨(some 27), (.mv (.t 8)), none⟩,
      ⟨(some 28), (.bin .neq (.t 27) (.k (I 0))), none⟩])
    (.cond (.t 28)
      (.seq (.ops [⟨(some 29), (.mv (.t 8)), none⟩,
        ⟨(some 4), (.mv (.t 29)), none⟩])
      .ret)
      .skip)))))))
    (.ops [⟨(some 30), (.bin .add (.t 11) (.k (I 1))), none⟩,
      ⟨(some 11), (.mv (.t 30)), none⟩])))) ks fr H ms := rfl
def c47 : ICode :=
  (.seq (.ops [⟨(some 4), (.mv (.k (I 0))), none⟩])
  (.seq (.seq (.ops [⟨(some 9), (.mv (.t 0)), none⟩,
    ⟨(some 10), (.len (.t 9)), none⟩,
    ⟨(some 11), (.mv (.k (I 0))), none⟩])
  (.block 0 (.loop c47L0)))
  c47T1))
theorem w47 {x : Cx} {Q : QT} {ks : List Kont} {fr : Fr} {H : AHeap} {ms : List Nat} : W x Q c47 ks fr H ms = W x Q (.seq (.ops [⟨(some 4), (.mv (.k (I 0))), none⟩])
    (.seq (.seq (.ops [⟨(some 9), (.mv (.t 0)), none⟩,
      ⟨(some 10), (.len (.t 9)), none⟩,
      ⟨(some 11), (.mv (.k (I 0))), none⟩])
    (.block 0 (.loop c47L0)))
    c47T1)) ks fr H ms := rfl
def r47 : List IRes := [(.tmp 4)]
theorem t47 : Try.f47.body.bind (trCode Try.prog Try.f47.ntmps) = some (strip c47) := by kernel_rfl
theorem q47 : trRes Try.prog Try.f47.results.toList = some r47 := by kernel_rfl
theorem fn47 : Try.prog.funcs[47]? = some Try.f47 := by kernel_rfl
theorem nn47 : (Try.f47.name == "runtime.NumGoroutine") = false := by kernel_rfl
theorem nt47 : Try.f47.ntmps = 36 := by kernel_rfl
def c71 : ICode :=
  (.seq (.ops [⟨(some 4), (.mv (.k (I 0))), none⟩])
  (.seq (.ops [⟨(some 7), (.mv (.t 0)), none⟩,
    ⟨(some 8), (.call (.k (.fn (.func 78) [] [])) [(.t 7)]), none⟩,
    ⟨(some 5), (.mv (.t 8)), none⟩])
  (.seq (.ops [⟨(some 9), (.mv (.t 1)), none⟩,
    ⟨(some 10), (.call (.k (.fn (.func 78) [] [])) [(.t 9)]), none⟩,
    ⟨(some 6), (.mv (.t 10)), none⟩])
  (.seq (.seq (.ops [⟨(some 11), (.mv (.t 5)), none⟩])
  (.cond (.t 11)
    (.seq (.seq (.ops [⟨(some 12), (.mv (.t 6)), none⟩])
    (.cond (.t 12)
      (.seq (.ops [⟨(some 4), (.mv (.k (I 0))), none⟩])
      .ret)
      .skip))
    (.seq (.ops [⟨(some 4), (.mv (.k (I (-1)))), none⟩])
    .ret))
    .skip))
  (.seq (.seq (.ops [⟨(some 13), (.mv (.t 6)), none⟩])
  (.cond (.t 13)
    (.seq (.ops [⟨(some 4), (.mv (.k (I 1))), none⟩])
    .ret)
    .skip))
  (.seq (.seq (.ops [⟨(some 14), (.mv (.t 0)), none⟩,
    ⟨(some 15), (.mv (.t 1)), none⟩,
    ⟨(some 16), (.bin .lss (.t 14) (.t 15)), none⟩])
  (.cond (.t 16)
    (.seq (.ops [⟨(some 4), (.mv (.k (I (-1)))), none⟩])
    .ret)
    .skip))
  (.seq (.seq (.ops [⟨(some 17), (.mv (.t 0)), none⟩,
    ⟨(some 18), (.mv (.t 1)), none⟩,
    ⟨(some 19), (.bin .gtr (.t 17) (.t 18)), none⟩])
  (.cond (.t 19)
    (.seq (.ops [⟨(some 4), (.mv (.k (I 1))), none⟩])
    .ret)
    .skip))
  (.seq (.ops [⟨(some 4), (.mv (.k (I 0))), none⟩])
  .ret))))))))
theorem w71 {x : Cx} {Q : QT} {ks : List Kont} {fr : Fr} {H : AHeap} {ms : List Nat} : W x Q c71 ks fr H ms = W x Q (.seq (.ops [⟨(some 4), (.mv (.k (I 0))), none⟩])
    (.seq (.ops [⟨(some 7), (.mv (.t 0)), none⟩,
      ⟨(some 8), (.call (.k (.fn (.func 78) [] [])) [(.t 7)]), none⟩,
      ⟨(some 5), (.mv (.t 8)), none⟩])
    (.seq (.ops [⟨(some 9), (.mv (.t 1)), none⟩,
      ⟨(some 10), (.call (.k (.fn (.func 78) [] [])) [(.t 9)]), none⟩,
      ⟨(some 6), (.mv (.t 10)), none⟩])
    (.seq (.seq (.ops [⟨(some 11), (.mv (.t 5)), none⟩])
    (.cond (.t 11)
      (.seq (.seq (.ops [⟨(some 12), (.mv (.t 6)), none⟩])
      (.cond (.t 12)
        (.seq (.ops [⟨(some 4), (.mv (.k (I 0))), none⟩])
        .ret)
        .skip))
      (.seq (.ops [⟨(some 4), (.mv (.k (I (-1)))), none⟩])
      .ret))
      .skip))
    (.seq (.seq (.ops [⟨(some 13), (.mv (.t 6)), none⟩])
    (.cond (.t 13)
      (.seq (.ops [⟨(some 4), (.mv (.k (I 1))), none⟩])
      .ret)
      .skip))
    (.seq (.seq (.ops [⟨(some 14), (.mv (.t 0)), none⟩,
      ⟨(some 15), (.mv (.t 1)), none⟩,
      ⟨(some 16), (.bin .lss (.t 14) (.t 15)), none⟩])
    (.cond (.t 16)
      (.seq (.ops [⟨(some 4), (.mv (.k (I (-1)))), none⟩])
      .ret)
      .skip))
    (.seq (.seq (.ops [⟨(some 17), (.mv (.t 0)), none⟩,
      ⟨(some 18), (.mv (.t 1)), none⟩,
      ⟨(some 19), (.bin .gtr (.t 17) (.t 18)), none⟩])
    (.cond (.t 19)
      (.seq (.ops [⟨(some 4), (.mv (.k (I 1))), none⟩])
      .ret)
      .skip))
    (.seq (.ops [⟨(some 4), (.mv (.k (I 0))), none⟩])
    .ret)))))))) ks fr H ms := rfl
def r71 : List IRes := [(.tmp 4)]
theorem t71 : Try.f71.body.bind (trCode Try.prog Try.f71.ntmps) = some (strip c71) := by kernel_rfl
theorem q71 : trRes Try.prog Try.f71.results.toList = some r71 := by kernel_rfl
theorem fn71 : Try.prog.funcs[71]? = some Try.f71 := by kernel_rfl
theorem nn71 : (Try.f71.name == "runtime.NumGoroutine") = false := by kernel_rfl
theorem nt71 : Try.f71.ntmps = 20 := by kernel_rfl
def c78 : ICode :=
  (.seq (.ops [⟨(some 2), (.mv (.k (B false))), none⟩])
  (.seq (.ops [⟨(some 3), (.mv (.t 0)), none⟩,
    ⟨(some 4), (.mv (.t 0)), none⟩,
    ⟨(some 5), (.bin .neq (.t 3) (.t 4)), none⟩,
    ⟨(some 2), (.mv (.t 5)), none⟩])
  .ret))
theorem w78 {x : Cx} {Q : QT} {ks : List Kont} {fr : Fr} {H : AHeap} {ms : List Nat} : W x Q c78 ks fr H ms = W x Q (.seq (.ops [⟨(some 2), (.mv (.k (B false))), none⟩])
    (.seq (.ops [⟨(some 3), (.mv (.t 0)), none⟩,
      ⟨(some 4), (.mv (.t 0)), none⟩,
      ⟨(some 5), (.bin .neq (.t 3) (.t 4)), none⟩,
      ⟨(some 2), (.mv (.t 5)), none⟩])
    .ret)) ks fr H ms := rfl
def r78 : List IRes := [(.tmp 2)]
theorem t78 : Try.f78.body.bind (trCode Try.prog Try.f78.ntmps) = some (strip c78) := by kernel_rfl
theorem q78 : trRes Try.prog Try.f78.results.toList = some r78 := by kernel_rfl
theorem fn78 : Try.prog.funcs[78]? = some Try.f78 := by kernel_rfl
theorem nn78 : (Try.f78.name == "runtime.NumGoroutine") = false := by kernel_rfl
theorem nt78 : Try.f78.ntmps = 6 := by kernel_rfl
def c13 : ICode :=
  (.seq (.ops [⟨(some 2), (.mv (.k (B false))), none⟩])
  (.seq (.ops [⟨(some 8), (.mv (.t 0)), none⟩,
    ⟨(some 9), (.call (.k (.fn (.func 16) [] [])) [(.t 8)]), none⟩,
    ⟨(some 10), (.call (.k (.fn (.func 42) [] [])) [(.t 9)]), none⟩,
    ⟨(some 7), (.mv (.t 10)), none⟩,
    ⟨(some 11), (.ext (.t 7) 0), none⟩,
    ⟨(some 12), (.ext (.t 7) 1), none⟩,
    ⟨(some 3), (.mv (.t 11)), none⟩,
    ⟨(some 4), (.mv (.t 12)), none⟩])
  (.seq (.ops [⟨(some 14), (.mv (.t 0)), none⟩,
    ⟨(some 15), (.call (.k (.fn (.func 16) [] [])) [(.t 14)]), none⟩,
    ⟨(some 16), (.call (.k (.fn (.func 43) [] [])) [(.t 15)]), none⟩,
    ⟨(some 13), (.mv (.t 16)), none⟩,
    ⟨(some 17), (.ext (.t 13) 0), none⟩,
    ⟨(some 18), (.ext (.t 13) 1), none⟩,
    ⟨(some 5), (.mv (.t 17)), none⟩,
    ⟨(some 6), (.mv (.t 18)), none⟩])
  (.seq (.seq (.ops [⟨(some 19), (.mv (.t 0)), none⟩,
    ⟨(some 20), (.call (.k (.fn (.func 17) [] [])) [(.t 19)]), none⟩,
    ⟨(some 21), (.un .not (.t 20)), none⟩])
  (.cond (.t 21)
    (.seq (.ops [⟨(some 22), (.mv (.t 3)), none⟩,
      ⟨(some 23), (.bin .eql (.t 22) (.k (I 0))), none⟩,
      ⟨(some 24), (.mv (.t 23)), none⟩,
      ⟨(some 25), (.mv (.t 5)), (some (24, true))⟩,
      ⟨(some 26), (.len (.t 25)), (some (24, true))⟩,
      ⟨(some 27), (.bin .eql (.t 26) (.k (I 0))), (some (24, true))⟩,
      ⟨(some 28), (.pick (.t 24) (.t 27) (.k (B false))), none⟩,
      ⟨(some 29), (.mv (.t 28)), none⟩,
      ⟨(some 30), (.mv (.t 4)), (some (29, true))⟩,
      ⟨(some 31), (.bin .eql (.t 30) (.k (I 2))), (some (29, true))⟩,
      ⟨(some 32), (.pick (.t 29) (.t 31) (.k (B false))), none⟩,
      ⟨(some 33), (.mv (.t 32)), none⟩,
      ⟨(some 34), (.mv (.t 6)), (some (33, true))⟩,
      ⟨(some 35), (.bin .eql (.t 34) (.k (I 2))), (some (33, true))⟩,
      ⟨(some 36), (.pick (.t 33) (.t 35) (.k (B false))), none⟩,
      ⟨(some 37), (.mv (.t 36)), none⟩,
      ⟨(some 38), (.call (.k (.fn (.func 18) [] [])) []), (some (37, true))⟩,
      ⟨(some 39), (.pick (.t 37) (.t 38) (.k (B false))), none⟩,
      ⟨(some 2), (.mv (.t 39)), none⟩])
    .ret)
    .skip))
  (.seq (.seq (.ops [⟨(some 40), (.mv (.t 0)), none⟩,
    ⟨(some 41), (.len (.t 40)), none⟩,
    ⟨(some 42), (.bin .lss (.t 41) (.k (I 2))), none⟩])
  (.cond (.t 42)
    (.seq (.ops [⟨(some 43), (.mv (.t 3)), none⟩,
      ⟨(some 44), (.mv (.t 0)), none⟩,
      ⟨(some 45), (.call (.k (.fn (.func 45) [] [])) [(.t 44)]), none⟩,
      ⟨(some 46), (.bin .eql (.t 43) (.t 45)), none⟩,
      ⟨(some 47), (.mv (.t 46)), none⟩,
      ⟨(some 48), (.mv (.t 4)), (some (47, true))⟩,
      ⟨(some 49), (.bin .eql (.t 48) (.k (I 0))), (some (47, true))⟩,
      ⟨(some 50), (.pick (.t 47) (.t 49) (.k (B false))), none⟩,
      ⟨(some 51), (.mv (.t 50)), none⟩,
      ⟨(some 52), (.mv (.t 5)), (some (51, true))⟩,
      ⟨(some 53), (.len (.t 52)), (some (51, true))⟩,
      ⟨(some 54), (.bin .eql (.t 53) (.k (I 0))), (some (51, true))⟩,
      ⟨(some 55), (.pick (.t 51) (.t 54) (.k (B false))), none⟩,
      ⟨(some 56), (.mv (.t 55)), none⟩,
      ⟨(some 57), (.mv (.t 6)), (some (56, true))⟩,
      ⟨(some 58), (.bin .eql (.t 57) (.k (I 2))), (some (56, true))⟩,
      ⟨(some 59), (.pick (.t 56) (.t 58) (.k (B false))), none⟩,
      ⟨(some 60), (.mv (.t 59)), none⟩,
      ⟨(some 61), (.call (.k (.fn (.func 18) [] [])) []), (some (60, true))⟩,
      ⟨(some 62), (.pick (.t 60) (.t 61) (.k (B false))), none⟩,
      ⟨(some 2), (.mv (.t 62)), none⟩])
    .ret)
    .skip))
  (.seq (.seq (.ops [⟨(some 63), (.mv (.t 0)), none⟩,
    ⟨(some 64), (.call (.k (.fn (.func 21) [] [])) [(.t 63)]), none⟩,
    ⟨(some 65), (.un .not (.t 64)), none⟩])
  (.cond (.t 65)
    (.seq (.ops [⟨(some 66), (.mv (.t 3)), none⟩,
      ⟨(some 67), (.bin .eql (.t 66) (.k (I 0))), none⟩,
      ⟨(some 68), (.mv (.t 67)), none⟩,
      ⟨(some 69), (.mv (.t 5)), (some (68, true))⟩,
      ⟨(some 70), (.len (.t 69)), (some (68, true))⟩,
      ⟨(some 71), (.bin .eql (.t 70) (.k (I 0))), (some (68, true))⟩,
      ⟨(some 72), (.pick (.t 68) (.t 71) (.k (B false))), none⟩,
      ⟨(some 73), (.mv (.t 72)), none⟩,
      ⟨(some 74), (.mv (.t 4)), (some (73, true))⟩,
      ⟨(some 75), (.bin .eql (.t 74) (.k (I 5))), (some (73, true))⟩,
      ⟨(some 76), (.pick (.t 73) (.t 75) (.k (B false))), none⟩,
      ⟨(some 77), (.mv (.t 76)), none⟩,
      ⟨(some 78), (.mv (.t 6)), (some (77, true))⟩,
      ⟨(some 79), (.bin .eql (.t 78) (.k (I 5))), (some (77, true))⟩,
      ⟨(some 80), (.pick (.t 77) (.t 79) (.k (B false))), none⟩,
      ⟨(some 81), (.mv (.t 80)), none⟩,
      ⟨(some 82), (.call (.k (.fn (.func 18) [] [])) []), (some (81, true))⟩,
      ⟨(some 83), (.pick (.t 81) (.t 82) (.k (B false))), none⟩,
      ⟨(some 2), (.mv (.t 83)), none⟩])
    .ret)
    .skip))
  (.seq (.ops [⟨(some 84), (.mv (.t 3)), none⟩,
    ⟨(some 85), (.mv (.t 0)), none⟩,
    ⟨(some 86), (.call (.k (.fn (.func 45) [] [])) [(.t 85)]), none⟩,
    ⟨(some 87), (.bin .eql (.t 84) (.t 86)), none⟩,
    ⟨(some 88), (.mv (.t 87)), none⟩,
    ⟨(some 89), (.mv (.t 5)), (some (88, true))⟩,
    ⟨(some 90), (.mv (.t 0)), (some (88, true))⟩,
    ⟨(some 91), (.call (.k (.fn (.func 46) [] [])) [(.t 90)]), (some (88, true))⟩,
    ⟨(some 92), (.call (.k (.fn (.func 32) [] [])) [(.t 89), (.t 91)]), (some (88, true))⟩,
    ⟨(some 93), (.pick (.t 88) (.t 92) (.k (B false))), none⟩,
    ⟨(some 94), (.mv (.t 93)), none⟩,
    ⟨(some 95), (.mv (.t 4)), (some (94, true))⟩,
    ⟨(some 96), (.bin .eql (.t 95) (.k (I 0))), (some (94, true))⟩,
    ⟨(some 97), (.pick (.t 94) (.t 96) (.k (B false))), none⟩,
    ⟨(some 98), (.mv (.t 97)), none⟩,
    ⟨(some 99), (.mv (.t 6)), (some (98, true))⟩,
    ⟨(some 100), (.bin .eql (.t 99) (.k (I 0))), (some (98, true))⟩,
    ⟨(some 101), (.pick (.t 98) (.t 100) (.k (B false))), none⟩,
    ⟨(some 102), (.mv (.t 101)), none⟩,
    ⟨(some 103), (.call (.k (.fn (.func 18) [] [])) []), (some (102, true))⟩,
    ⟨(some 104), (.pick (.t 102) (.t 103) (.k (B false))), none⟩,
    ⟨(some 2), (.mv (.t 104)), none⟩])
  .ret)))))))
theorem w13 {x : Cx} {Q : QT} {ks : List Kont} {fr : Fr} {H : AHeap} {ms : List Nat} : W x Q c13 ks fr H ms = W x Q (.seq (.ops [⟨(some 2), (.mv (.k (B false))), none⟩])
    (.seq (.ops [⟨(some 8), (.mv (.t 0)), none⟩,
      ⟨(some 9), (.call (.k (.fn (.func 16) [] [])) [(.t 8)]), none⟩,
      ⟨(some 10), (.call (.k (.fn (.func 42) [] [])) [(.t 9)]), none⟩,
      ⟨(some 7), (.mv (.t 10)), none⟩,
      ⟨(some 11), (.ext (.t 7) 0), none⟩,
      ⟨(some 12), (.ext (.t 7) 1), none⟩,
      ⟨(some 3), (.mv (.t 11)), none⟩,
      ⟨(some 4), (.mv (.t 12)), none⟩])
    (.seq (.ops [⟨(some 14), (.mv (.t 0)), none⟩,
      ⟨(some 15), (.call (.k (.fn (.func 16) [] [])) [(.t 14)]), none⟩,
      ⟨(some 16), (.call (.k (.fn (.func 43) [] [])) [(.t 15)]), none⟩,
      ⟨(some 13), (.mv (.t 16)), none⟩,
      ⟨(some 17), (.ext (.t 13) 0), none⟩,
      ⟨(some 18), (.ext (.t 13) 1), none⟩,
      ⟨(some 5), (.mv (.t 17)), none⟩,
      ⟨(some 6), (.mv (.t 18)), none⟩])
    (.seq (.seq (.ops [⟨(some 19), (.mv (.t 0)), none⟩,
      ⟨(some 20), (.call (.k (.fn (.func 17) [] [])) [(.t 19)]), none⟩,
      ⟨(some 21), (.un .not (.t 20)), none⟩])
    (.cond (.t 21)
      (.seq (.ops [⟨(some 22), (.mv (.t 3)), none⟩,
        ⟨(some 23), (.bin .eql (.t 22) (.k (I 0))), none⟩,
        ⟨(some 24), (.mv (.t 23)), none⟩,
        ⟨(some 25), (.mv (.t 5)), (some (24, true))⟩,
        ⟨(some 26), (.len (.t 25)), (some (24, true))⟩,
        ⟨(some 27), (.bin .eql (.t 26) (.k (I 0))), (some (24, true))⟩,
        ⟨(some 28), (.pick (.t 24) (.t 27) (.k (B false))), none⟩,
        ⟨(some 29), (.mv (.t 28)), none⟩,
        ⟨(some 30), (.mv (.t 4)), (some (29, true))⟩,
        ⟨(some 31), (.bin .eql (.t 30) (.k (I 2))), (some (29, true))⟩,
        ⟨(some 32), (.pick (.t 29) (.t 31) (.k (B false))), none⟩,
        ⟨(some 33), (.mv (.t 32)), none⟩,
        ⟨(some 34), (.mv (.t 6)), (some (33, true))⟩,
        ⟨(some 35), (.bin .eql (.t 34) (.k (I 2))), (some (33, true))⟩,
        ⟨(some 36), (.pick (.t 33) (.t 35) (.k (B false))), none⟩,
        ⟨(some 37), (.mv (.t 36)), none⟩,
        ⟨(some 38), (.call (.k (.fn (.func 18) [] [])) []), (some (37, true))⟩,
        ⟨(some 39), (.pick (.t 37) (.t 38) (.k (B false))), none⟩,
        ⟨(some 2), (.mv (.t 39)), none⟩])
      .ret)
      .skip))
    (.seq (.seq (.ops [⟨(some 40), (.mv (.t 0)), none⟩,
      ⟨(some 41), (.len (.t 40)), none⟩,
      ⟨(some 42), (.bin .lss (.t 41) (.k (I 2))), none⟩])
    (.cond (.t 42)
      (.seq (.ops [⟨(some 43), (.mv (.t 3)), none⟩,
        ⟨(some 44), (.mv (.t 0)), none⟩,
        ⟨(some 45), (.call (.k (.fn (.func 45) [] [])) [(.t 44)]), none⟩,
        ⟨(some 46), (.bin .eql (.t 43) (.t 45)), none⟩,
        ⟨(some 47), (.mv (.t 46)), none⟩,
        ⟨(some 48), (.mv (.t 4)), (some (47, true))⟩,
        ⟨(some 49), (.bin .eql (.t 48) (.k (I 0))), (some (47, true))⟩,
        ⟨(some 50), (.pick (.t 47) (.t 49) (.k (B false))), none⟩,
        ⟨(some 51), (.mv (.t 50)), none⟩,
        ⟨(some 52), (.mv (.t 5)), (some (51, true))⟩,
        ⟨(some 53), (.len (.t 52)), (some (51, true))⟩,
        ⟨(some 54), (.bin .eql (.t 53) (.k (I 0))), (some (51, true))⟩,
        ⟨(some 55), (.pick (.t 51) (.t 54) (.k (B false))), none⟩,
        ⟨(some 56), (.mv (.t 55)), none⟩,
        ⟨(some 57), (.mv (.t 6)), (some (56, true))⟩,
        ⟨(some 58), (.bin .eql (.t 57) (.k (I 2))), (some (56, true))⟩,
        ⟨(some 59), (.pick (.t 56) (.t 58) (.k (B false))), none⟩,
        ⟨(some 60), (.mv (.t 59)), none⟩,
        ⟨(some 61), (.call (.k (.fn (.func 18) [] [])) []), (some (60, true))⟩,
        ⟨(some 62), (.pick (.t 60) (.t 61) (.k (B false))), none⟩,
        ⟨(some 2), (.mv (.t 62)), none⟩])
      .ret)
      .skip))
    (.seq (.seq (.ops [⟨(some 63), (.mv (.t 0)), none⟩,
      ⟨(some 64), (.call (.k (.fn (.func 21) [] [])) [(.t 63)]), none⟩,
      ⟨(some 65), (.un .not (.t 64)), none⟩])
    (.cond (.t 65)
      (.seq (.ops [⟨(some 66), (.mv (.t 3)), none⟩,
        ⟨(some 67), (.bin .eql (.t 66) (.k (I 0))), none⟩,
        ⟨(some 68), (.mv (.t 67)), none⟩,
        ⟨(some 69), (.mv (.t 5)), (some (68, true))⟩,
        ⟨(some 70), (.len (.t 69)), (some (68, true))⟩,
        ⟨(some 71), (.bin .eql (.t 70) (.k (I 0))), (some (68, true))⟩,
        ⟨(some 72), (.pick (.t 68) (.t 71) (.k (B false))), none⟩,
        ⟨(some 73), (.mv (.t 72)), none⟩,
        ⟨(some 74), (.mv (.t 4)), (some (73, true))⟩,
        ⟨(some 75), (.bin .eql (.t 74) (.k (I 5))), (some (73, true))⟩,
        ⟨(some 76), (.pick (.t 73) (.t 75) (.k (B false))), none⟩,
        ⟨(some 77), (.mv (.t 76)), none⟩,
        ⟨(some 78), (.mv (.t 6)), (some (77, true))⟩,
        ⟨(some 79), (.bin .eql (.t 78) (.k (I 5))), (some (77, true))⟩,
        ⟨(some 80), (.pick (.t 77) (.t 79) (.k (B false))), none⟩,
        ⟨(some 81), (.mv (.t 80)), none⟩,
        ⟨(some 82), (.call (.k (.fn (.func 18) [] [])) []), (some (81, true))⟩,
        ⟨(some 83), (.pick (.t 81) (.t 82) (.k (B false))), none⟩,
        ⟨(some 2), (.mv (.t 83)), none⟩])
      .ret)
      .skip))
    (.seq (.ops [⟨(some 84), (.mv (.t 3)), none⟩,
      ⟨(some 85), (.mv (.t 0)), none⟩,
      ⟨(some 86), (.call (.k (.fn (.func 45) [] [])) [(.t 85)]), none⟩,
      ⟨(some 87), (.bin .eql (.t 84) (.t 86)), none⟩,
      ⟨(some 88), (.mv (.t 87)), none⟩,
      ⟨(some 89), (.mv (.t 5)), (some (88, true))⟩,
      ⟨(some 90), (.mv (.t 0)), (some (88, true))⟩,
      ⟨(some 91), (.call (.k (.fn (.func 46) [] [])) [(.t 90)]), (some (88, true))⟩,
      ⟨(some 92), (.call (.k (.fn (.func 32) [] [])) [(.t 89), (.t 91)]), (some (88, true))⟩,
      ⟨(some 93), (.pick (.t 88) (.t 92) (.k (B false))), none⟩,
      ⟨(some 94), (.mv (.t 93)), none⟩,
      ⟨(some 95), (.mv (.t 4)), (some (94, true))⟩,
      ⟨(some 96), (.bin .eql (.t 95) (.k (I 0))), (some (94, true))⟩,
      ⟨(some 97), (.pick (.t 94) (.t 96) (.k (B false))), none⟩,
      ⟨(some 98), (.mv (.t 97)), none⟩,
      ⟨(some 99), (.mv (.t 6)), (some (98, true))⟩,
      ⟨(some 100), (.bin .eql (.t 99) (.k (I 0))), (some (98, true))⟩,
      ⟨(some 101), (.pick (.t 98) (.t 100) (.k (B false))), none⟩,
      ⟨(some 102), (.mv (.t 101)), none⟩,
      ⟨(some 103), (.call (.k (.fn (.func 18) [] [])) []), (some (102, true))⟩,
      ⟨(some 104), (.pick (.t 102) (.t 103) (.k (B false))), none⟩,
      ⟨(some 2), (.mv (.t 104)), none⟩])
    .ret))))))) ks fr H ms := rfl
def r13 : List IRes := [(.tmp 2)]
theorem t13 : Try.f13.body.bind (trCode Try.prog Try.f13.ntmps) = some (strip c13) := by kernel_rfl
theorem q13 : trRes Try.prog Try.f13.results.toList = some r13 := by kernel_rfl
theorem fn13 : Try.prog.funcs[13]? = some Try.f13 := by kernel_rfl
theorem nn13 : (Try.f13.name == "runtime.NumGoroutine") = false := by kernel_rfl
theorem nt13 : Try.f13.ntmps = 105 := by kernel_rfl
def c43 : ICode :=
  (.seq (.ops [⟨(some 1), (.box (.t 0)), none⟩,
    ⟨(some 2), (.mv (.k nilSl)), none⟩,
    ⟨(some 3), (.mv (.k (I 0))), none⟩])
  (.seq (.seq (.ops [⟨(some 7), (.load false 1 (.t 1)), none⟩,
    ⟨(some 8), (.call (.k (.fn (.func 15) [] [])) [(.t 7)]), none⟩,
    ⟨(some 6), (.mv (.t 8)), none⟩,
    ⟨(some 9), (.ext (.t 6) 0), none⟩,
    ⟨(some 10), (.ext (.t 6) 1), none⟩,
    ⟨(some 4), (.mv (.t 9)), none⟩,
    ⟨(some 5), (.mv (.t 10)), none⟩])
  (.block 0 (.seq (.ops [⟨(some 12), (.mv (.t 5)), none⟩,
    ⟨(some 13), (.bin .neq (.t 12) (.k (I 0))), none⟩,
    ⟨(some 14), (.mv (.t 13)), none⟩,
    ⟨(some 15), (.load false 1 (.t 1)), (some (14, false))⟩,
    ⟨(some 16), (.len (.t 15)), (some (14, false))⟩,
    ⟨(some 17), (.bin .lss (.t 16) (.k (I 2))), (some (14, false))⟩,
    ⟨(some 18), (.pick (.t 14) (.k (B true)) (.t 17)), none⟩,
    ⟨(some 11), (.mv (.t 18)), none⟩])
  (.cond (.t 11)
    (.seq (.ops [⟨(some 2), (.mv (.k nilSl)), none⟩,
      ⟨(some 3), (.mv (.k (I 2))), none⟩])
    .ret)
    (.seq (.ops [⟨(some 20), (.mv (.t 4)), none⟩,
      ⟨(some 21), (.un .not (.t 20)), none⟩,
      ⟨(some 19), (.mv (.t 21)), none⟩])
    (.cond (.t 19)
      (.seq (.ops [⟨(some 2), (.mv (.k nilSl)), none⟩,
        ⟨(some 3), (.mv (.k (I 5))), none⟩])
      .ret)
      .skip))))))
  (.seq (.ops [⟨(some 22), (.load false 1 (.t 1)), none⟩,
    ⟨(some 23), (.call (.k (.fn (.func 44) [] [])) [(.t 22)]), none⟩,
    ⟨(some 24), (.mkfn (.func 69) [] [(.t 1)]), none⟩,
    ⟨(some 25), (.call (.k (.fn (.func 68) [] [])) [(.t 23), (.t 24)]), none⟩,
    ⟨(some 2), (.mv (.t 25)), none⟩,
    ⟨(some 3), (.mv (.k (I 0))), none⟩])
  .ret)))
theorem w43 {x : Cx} {Q : QT} {ks : List Kont} {fr : Fr} {H : AHeap} {ms : List Nat} : W x Q c43 ks fr H ms = W x Q (.seq (.ops [⟨(some 1), (.box (.t 0)), none⟩,
      ⟨(some 2), (.mv (.k nilSl)), none⟩,
      ⟨(some 3), (.mv (.k (I 0))), none⟩])
    (.seq (.seq (.ops [⟨(some 7), (.load false 1 (.t 1)), none⟩,
      ⟨(some 8), (.call (.k (.fn (.func 15) [] [])) [(.t 7)]), none⟩,
      ⟨(some 6), (.mv (.t 8)), none⟩,
      ⟨(some 9), (.ext (.t 6) 0), none⟩,
      ⟨(some 10), (.ext (.t 6) 1), none⟩,
      ⟨(some 4), (.mv (.t 9)), none⟩,
      ⟨(some 5), (.mv (.t 10)), none⟩])
    (.block 0 (.seq (.ops [⟨(some 12), (.mv (.t 5)), none⟩,
      ⟨(some 13), (.bin .neq (.t 12) (.k (I 0))), none⟩,
      ⟨(some 14), (.mv (.t 13)), none⟩,
      ⟨(some 15), (.load false 1 (.t 1)), (some (14, false))⟩,
      ⟨(some 16), (.len (.t 15)), (some (14, false))⟩,
      ⟨(some 17), (.bin .lss (.t 16) (.k (I 2))), (some (14, false))⟩,
      ⟨(some 18), (.pick (.t 14) (.k (B true)) (.t 17)), none⟩,
      ⟨(some 11), (.mv (.t 18)), none⟩])
    (.cond (.t 11)
      (.seq (.ops [⟨(some 2), (.mv (.k nilSl)), none⟩,
        ⟨(some 3), (.mv (.k (I 2))), none⟩])
      .ret)
      (.seq (.ops [⟨(some 20), (.mv (.t 4)), none⟩,
        ⟨(some 21), (.un .not (.t 20)), none⟩,
        ⟨(some 19), (.mv (.t 21)), none⟩])
      (.cond (.t 19)
        (.seq (.ops [⟨(some 2), (.mv (.k nilSl)), none⟩,
          ⟨(some 3), (.mv (.k (I 5))), none⟩])
        .ret)
        .skip))))))
    (.seq (.ops [⟨(some 22), (.load false 1 (.t 1)), none⟩,
      ⟨(some 23), (.call (.k (.fn (.func 44) [] [])) [(.t 22)]), none⟩,
      ⟨(some 24), (.mkfn (.func 69) [] [(.t 1)]), none⟩,
      ⟨(some 25), (.call (.k (.fn (.func 68) [] [])) [(.t 23), (.t 24)]), none⟩,
      ⟨(some 2), (.mv (.t 25)), none⟩,
      ⟨(some 3), (.mv (.k (I 0))), none⟩])
    .ret))) ks fr H ms := rfl
def r43 : List IRes := [(.tmp 2), (.tmp 3)]
theorem t43 : Try.f43.body.bind (trCode Try.prog Try.f43.ntmps) = some (strip c43) := by kernel_rfl
theorem q43 : trRes Try.prog Try.f43.results.toList = some r43 := by kernel_rfl
theorem fn43 : Try.prog.funcs[43]? = some Try.f43 := by kernel_rfl
theorem nn43 : (Try.f43.name == "runtime.NumGoroutine") = false := by kernel_rfl
theorem nt43 : Try.f43.ntmps = 26 := by kernel_rfl
def c46T1 : ICode :=
  (.keep [3] (.seq (.ops [⟨(some 22), (.mv (.t 3)), none⟩,
    ⟨(some 2), (.mv (.t 22)), none⟩])
  .ret))
theorem w46T1 {x : Cx} {Q : QT} {ks : List Kont} {fr : Fr} {H : AHeap} {ms : List Nat} : W x Q c46T1 ks fr H ms = W x Q (.keep [3] (.seq (.ops [⟨(some 22), (.mv (.t 3)), none⟩,
      ⟨(some 2), (.mv (.t 22)), none⟩])
    .ret)) ks fr H ms := rfl
/- live: [0, 3, 6, 7, 8] -/
def c46L0 : ICode :=
  (.seq (.ops [⟨(some 9), (.bin .lss (.t 8) (.t 7)), none⟩])
  (.seq (.cond (.t 9)
    .skip
    (.exit 0))
  (.seq (.block 1 (.seq (.ops [⟨(some 10), (.ixS 1 (.t 6) (.t 8)), none⟩,
    ⟨(some 11), (.load false 1 (.t 10)), none⟩,
    ⟨(some 5), (.mv (.t 11)), none⟩])
  (.seq (.ops [⟨(some 12), (.mv (.t 5)), none⟩,
    ⟨(some 13), (.mv (.t 0)), none⟩,
    ⟨(some 14), (.len (.t 13)), none⟩,
    ⟨(some 15), (.bin .sub (.t 14) (.k (I 1))), none⟩,
    ⟨(some 16), (.bin .lss (.t 12) (.t 15)), none⟩])
  (.cond (.t 16)
    (.ops [⟨(some 17), (.mv (.t 3)), none⟩,
      ⟨(some 18), (.mv (.t 5)), none⟩,
      ⟨(some 19), (.bslice 1 1 [(I 0)] [(0, 1, (.t 18))]), none⟩,
      ⟨(some 20), (.append 1 8 (.t 17) (.t 19)), none⟩,
      ⟨(some 3), (.mv (.t 20)), none⟩])
    .skip))))
  (.ops [⟨(some 21), (.bin .add (.t 8) (.k (I 1))), none⟩,
    ⟨(some 8), (.mv (.t 21)), none⟩]))))
theorem w46L0 {x : Cx} {Q : QT} {ks : List Kont} {fr : Fr} {H : AHeap} {ms : List Nat} : W x Q c46L0 ks fr H ms = W x Q (.seq (.ops [⟨(some 9), (.bin .lss (.t 8) (.t 7)), none⟩])
    (.seq (.cond (.t 9)
      .skip
      (.exit 0))
    (.seq (.block 1 (.seq (.ops [⟨(some 10), (.ixS 1 (.t 6) (.t 8)), none⟩,
      ⟨(some 11), (.load false 1 (.t 10)), none⟩,
      ⟨(some 5), (.mv (.t 11)), none⟩])
    (.seq (.ops [⟨(some 12), (.mv (.t 5)), none⟩,
      ⟨(some 13), (.mv (.t 0)), none⟩,
      ⟨(some 14), (.len (.t 13)), none⟩,
      ⟨(some 15), (.bin .sub (.t 14) (.k (I 1))), none⟩,
      ⟨(some 16), (.bin .lss (.t 12) (.t 15)), none⟩])
    (.cond (.t 16)
      (.ops [⟨(some 17), (.mv (.t 3)), none⟩,
        ⟨(some 18), (.mv (.t 5)), none⟩,
        ⟨(some 19), (.bslice 1 1 [(I 0)] [(0, 1, (.t 18))]), none⟩,
        ⟨(some 20), (.append 1 8 (.t 17) (.t 19)), none⟩,
        ⟨(some 3), (.mv (.t 20)), none⟩])
      .skip))))
    (.ops [⟨(some 21), (.bin .add (.t 8) (.k (I 1))), none⟩,
      ⟨(some 8), (.mv (.t 21)), none⟩])))) ks fr H ms := rfl
def c46 : ICode :=
  (.seq (.ops [⟨(some 2), (.mv (.k nilSl)), none⟩])
  (.seq (.ops [⟨(some 3), (.mv (.k nilSl)), none⟩])
  (.seq (.seq (.ops [⟨(some 6), (.mv (.t 0)), none⟩,
    ⟨(some 7), (.len (.t 6)), none⟩,
    ⟨(some 8), (.mv (.k (I 0))), none⟩])
  (.block 0 (.loop c46L0)))
  c46T1)))
theorem w46 {x : Cx} {Q : QT} {ks : List Kont} {fr : Fr} {H : AHeap} {ms : List Nat} : W x Q c46 ks fr H ms = W x Q (.seq (.ops [⟨(some 2), (.mv (.k nilSl)), none⟩])
    (.seq (.ops [⟨(some 3), (.mv (.k nilSl)), none⟩])
    (.seq (.seq (.ops [⟨(some 6), (.mv (.t 0)), none⟩,
      ⟨(some 7), (.len (.t 6)), none⟩,
      ⟨(some 8), (.mv (.k (I 0))), none⟩])
    (.block 0 (.loop c46L0)))
    c46T1))) ks fr H ms := rfl
def r46 : List IRes := [(.tmp 2)]
theorem t46 : Try.f46.body.bind (trCode Try.prog Try.f46.ntmps) = some (strip c46) := by kernel_rfl
theorem q46 : trRes Try.prog Try.f46.results.toList = some r46 := by kernel_rfl
theorem fn46 : Try.prog.funcs[46]? = some Try.f46 := by kernel_rfl
theorem nn46 : (Try.f46.name == "runtime.NumGoroutine") = false := by kernel_rfl
theorem nt46 : Try.f46.ntmps = 23 := by kernel_rfl
def c38 : ICode :=
  (.seq (.ops [⟨(some 2), (.mv (.k nilSl)), none⟩,
    ⟨(some 3), (.mv (.k (I 0))), none⟩])
  (.seq (.seq (.ops [⟨(some 5), (.mv (.t 0)), none⟩,
    ⟨(some 6), (.call (.k (.fn (.func 48) [] [])) [(.t 5)]), none⟩,
    ⟨(some 7), (.un .not (.t 6)), none⟩])
  (.cond (.t 7)
    (.seq (.ops [⟨(some 2), (.mv (.k nilSl)), none⟩,
      ⟨(some 3), (.mv (.k (I 2))), none⟩])
    .ret)
    .skip))
  (.seq (.ops [⟨(some 8), (.mv (.t 0)), none⟩,
    ⟨(some 9), (.call (.k (.fn (.func 44) [] [])) [(.t 8)]), none⟩,
    ⟨(some 4), (.mv (.t 9)), none⟩])
  (.seq (.ops [⟨(some 10), (.mv (.t 4)), none⟩,
    ⟨(some 11), (.call (.k (.fn (.func 67) [] [])) [(.t 10)]), none⟩])
  (.seq (.ops [⟨(some 12), (.mv (.t 4)), none⟩,
    ⟨(some 2), (.mv (.t 12)), none⟩,
    ⟨(some 3), (.mv (.k (I 0))), none⟩])
  .ret)))))
theorem w38 {x : Cx} {Q : QT} {ks : List Kont} {fr : Fr} {H : AHeap} {ms : List Nat} : W x Q c38 ks fr H ms = W x Q (.seq (.ops [⟨(some 2), (.mv (.k nilSl)), none⟩,
      ⟨(some 3), (.mv (.k (I 0))), none⟩])
    (.seq (.seq (.ops [⟨(some 5), (.mv (.t 0)), none⟩,
      ⟨(some 6), (.call (.k (.fn (.func 48) [] [])) [(.t 5)]), none⟩,
      ⟨(some 7), (.un .not (.t 6)), none⟩])
    (.cond (.t 7)
      (.seq (.ops [⟨(some 2), (.mv (.k nilSl)), none⟩,
        ⟨(some 3), (.mv (.k (I 2))), none⟩])
      .ret)
      .skip))
    (.seq (.ops [⟨(some 8), (.mv (.t 0)), none⟩,
      ⟨(some 9), (.call (.k (.fn (.func 44) [] [])) [(.t 8)]), none⟩,
      ⟨(some 4), (.mv (.t 9)), none⟩])
    (.seq (.ops [⟨(some 10), (.mv (.t 4)), none⟩,
      ⟨(some 11), (.call (.k (.fn (.func 67) [] [])) [(.t 10)]), none⟩])
    (.seq (.ops [⟨(some 12), (.mv (.t 4)), none⟩,
      ⟨(some 2), (.mv (.t 12)), none⟩,
      ⟨(some 3), (.mv (.k (I 0))), none⟩])
    .ret))))) ks fr H ms := rfl
def r38 : List IRes := [(.tmp 2), (.tmp 3)]
theorem t38 : Try.f38.body.bind (trCode Try.prog Try.f38.ntmps) = some (strip c38) := by kernel_rfl
theorem q38 : trRes Try.prog Try.f38.results.toList = some r38 := by kernel_rfl
theorem fn38 : Try.prog.funcs[38]? = some Try.f38 := by kernel_rfl
theorem nn38 : (Try.f38.name == "runtime.NumGoroutine") = false := by kernel_rfl
theorem nt38 : Try.f38.ntmps = 13 := by kernel_rfl
def c39T1 : ICode :=
  (.keep [4] (.seq (.ops [⟨(some 25), (.mv (.t 4)), none⟩,
    ⟨(some 2), (.mv (.t 25)), none⟩,
    ⟨(some 3), (.mv (.k (I 0))), none⟩])
  .ret))
theorem w39T1 {x : Cx} {Q : QT} {ks : List Kont} {fr : Fr} {H : AHeap} {ms : List Nat} : W x Q c39T1 ks fr H ms = W x Q (.keep [4] (.seq (.ops [⟨(some 25), (.mv (.t 4)), none⟩,
      ⟨(some 2), (.mv (.t 25)), none⟩,
      ⟨(some 3), (.mv (.k (I 0))), none⟩])
    .ret)) ks fr H ms := rfl
/- live: [0, 4, 10, 11, 12] -/
def c39L0 : ICode :=
  (.seq (.ops [⟨(some 13), (.bin .lss (.t 12) (.t 11)), none⟩])
  (.seq (.cond (.t 13)
    .skip
    (.exit 0))
  (.seq (.block 1 (.seq (.ops [⟨(some 14), (.ixS 1 (.t 10) (.t 12)), none⟩,
    ⟨(some 15), (.load false 1 (.t 14)), none⟩,
    ⟨(some 6), (.mv (.t 15)), none⟩])
  (.ops [⟨(some 16), (.mv (.t 4)), none⟩,
    ⟨(some 17), (.mv (.t 0)), none⟩,
    ⟨(some 18), (.len (.t 17)), none⟩,
    ⟨(some 19), (.bin .sub (.t 18) (.k (I 1))), none⟩,
    ⟨(some 20), (.mv (.t 6)), none⟩,
    ⟨(some 21), (.bin .sub (.t 19) (.t 20)), none⟩,
    ⟨(some 22), (.bslice 1 1 [(I 0)] [(0, 1, (.t 21))]), none⟩,
    ⟨(some 23), (.append 1 8 (.t 16) (.t 22)), none⟩,
    ⟨(some 4), (.mv (.t 23)), none⟩])))
  (.ops [⟨(some 24), (.bin .add (.t 12) (.k (I 1))), none⟩,
    ⟨(some 12), (.mv (.t 24)), none⟩]))))
theorem w39L0 {x : Cx} {Q : QT} {ks : List Kont} {fr : Fr} {H : AHeap} {ms : List Nat} : W x Q c39L0 ks fr H ms = W x Q (.seq (.ops [⟨(some 13), (.bin .lss (.t 12) (.t 11)), none⟩])
    (.seq (.cond (.t 13)
      .skip
      (.exit 0))
    (.seq (.block 1 (.seq (.ops [⟨(some 14), (.ixS 1 (.t 10) (.t 12)), none⟩,
      ⟨(some 15), (.load false 1 (.t 14)), none⟩,
      ⟨(some 6), (.mv (.t 15)), none⟩])
    (.ops [⟨(some 16), (.mv (.t 4)), none⟩,
      ⟨(some 17), (.mv (.t 0)), none⟩,
      ⟨(some 18), (.len (.t 17)), none⟩,
      ⟨(some 19), (.bin .sub (.t 18) (.k (I 1))), none⟩,
      ⟨(some 20), (.mv (.t 6)), none⟩,
      ⟨(some 21), (.bin .sub (.t 19) (.t 20)), none⟩,
      ⟨(some 22), (.bslice 1 1 [(I 0)] [(0, 1, (.t 21))]), none⟩,
      ⟨(some 23), (.append 1 8 (.t 16) (.t 22)), none⟩,
      ⟨(some 4), (.mv (.t 23)), none⟩])))
    (.ops [⟨(some 24), (.bin .add (.t 12) (.k (I 1))), none⟩,
      ⟨(some 12), (.mv (.t 24)), none⟩])))) ks fr H ms := rfl
def c39 : ICode :=
  (.seq (.ops [⟨(some 2), (.mv (.k nilSl)), none⟩,
    ⟨(some 3), (.mv (.k (I 0))), none⟩])
  (.seq (.seq (.ops [⟨(some 7), (.mv (.t 0)), none⟩,
    ⟨(some 8), (.call (.k (.fn (.func 48) [] [])) [(.t 7)]), none⟩,
    ⟨(some 9), (.un .not (.t 8)), none⟩])
  (.cond (.t 9)
    (.seq (.ops [⟨(some 2), (.mv (.k nilSl)), none⟩,
      ⟨(some 3), (.mv (.k (I 2))), none⟩])
    .ret)
    .skip))
  (.seq (.ops [⟨(some 4), (.mv (.k nilSl)), none⟩])
  (.seq (.seq (.ops [⟨(some 10), (.mv (.t 0)), none⟩,
    ⟨(some 11), (.len (.t 10)), none⟩,
    ⟨(some 12), (.mv (.k (I 0))), none⟩])
  (.block 0 (.loop c39L0)))
  c39T1))))
theorem w39 {x : Cx} {Q : QT} {ks : List Kont} {fr : Fr} {H : AHeap} {ms : List Nat} : W x Q c39 ks fr H ms = W x Q (.seq (.ops [⟨(some 2), (.mv (.k nilSl)), none⟩,
      ⟨(some 3), (.mv (.k (I 0))), none⟩])
    (.seq (.seq (.ops [⟨(some 7), (.mv (.t 0)), none⟩,
      ⟨(some 8), (.call (.k (.fn (.func 48) [] [])) [(.t 7)]), none⟩,
      ⟨(some 9), (.un .not (.t 8)), none⟩])
    (.cond (.t 9)
      (.seq (.ops [⟨(some 2), (.mv (.k nilSl)), none⟩,
        ⟨(some 3), (.mv (.k (I 2))), none⟩])
      .ret)
      .skip))
    (.seq (.ops [⟨(some 4), (.mv (.k nilSl)), none⟩])
    (.seq (.seq (.ops [⟨(some 10), (.mv (.t 0)), none⟩,
      ⟨(some 11), (.len (.t 10)), none⟩,
      ⟨(some 12), (.mv (.k (I 0))), none⟩])
    (.block 0 (.loop c39L0)))
    c39T1)))) ks fr H ms := rfl
def r39 : List IRes := [(.tmp 2), (.tmp 3)]
theorem t39 : Try.f39.body.bind (trCode Try.prog Try.f39.ntmps) = some (strip c39) := by kernel_rfl
theorem q39 : trRes Try.prog Try.f39.results.toList = some r39 := by kernel_rfl
theorem fn39 : Try.prog.funcs[39]? = some Try.f39 := by kernel_rfl
theorem nn39 : (Try.f39.name == "runtime.NumGoroutine") = false := by kernel_rfl
theorem nt39 : Try.f39.ntmps = 26 := by kernel_rfl
def c40T1 : ICode :=
  (.keep [3] (.seq (.ops [⟨(some 19), (.mv (.t 3)), none⟩,
    ⟨(some 2), (.mv (.t 19)), none⟩])
  .ret))
theorem w40T1 {x : Cx} {Q : QT} {ks : List Kont} {fr : Fr} {H : AHeap} {ms : List Nat} : W x Q c40T1 ks fr H ms = W x Q (.keep [3] (.seq (.ops [⟨(some 19), (.mv (.t 3)), none⟩,
      ⟨(some 2), (.mv (.t 19)), none⟩])
    .ret)) ks fr H ms := rfl
/- live: [0, 3, 4] -/
def c40L0 : ICode :=
  (.seq (.seq (.ops [⟨(some 8), (.mv (.t 4)), none⟩,
    ⟨(some 9), (.bin .geq (.t 8) (.k (I 0))), none⟩])
  (.cond (.t 9)
    .skip
    (.exit 0)))
  (.seq (.block 1 (.ops [⟨(some 12), (.mv (.t 3)), none⟩,
    ⟨(some 13), (.mv (.t 0)), none⟩,
    ⟨(some 14), (.mv (.t 4)), none⟩,
    ⟨(some 15), (.ixS 1 (.t 13) (.t 14)), none⟩,
    ⟨(some 16), (.load false 1 (.t 15)), none⟩,
    ⟨(some 17), (.bslice 1 1 [(I 0)] [(0, 1, (.t 16))]), none⟩,
    ⟨(some 18), (.append 1 8 (.t 12) (.t 17)), none⟩,
    ⟨(some 3), (.mv (.t 18)), none⟩]))
  (.ops [⟨(some 10), (.mv (.t 4)), none⟩,
    ⟨(some 11), (.bin .sub (.t 10) (.k (I 1))), none⟩,
    ⟨(some 4), (.mv (.t 11)), none⟩])))
theorem w40L0 {x : Cx} {Q : QT} {ks : List Kont} {fr : Fr} {H : AHeap} {ms : List Nat} : W x Q c40L0 ks fr H ms = W x Q (.seq (.seq (.ops [⟨(some 8), (.mv (.t 4)), none⟩,
      ⟨(some 9), (.bin .geq (.t 8) (.k (I 0))), none⟩])
    (.cond (.t 9)
      .skip
      (.exit 0)))
    (.seq (.block 1 (.ops [⟨(some 12), (.mv (.t 3)), none⟩,
      ⟨(some 13), (.mv (.t 0)), none⟩,
      ⟨(some 14), (.mv (.t 4)), none⟩,
      ⟨(some 15), (.ixS 1 (.t 13) (.t 14)), none⟩,
      ⟨(some 16), (.load false 1 (.t 15)), none⟩,
      ⟨(some 17), (.bslice 1 1 [(I 0)] [(0, 1, (.t 16))]), none⟩,
      ⟨(some 18), (.append 1 8 (.t 12) (.t 17)), none⟩,
      ⟨(some 3), (.mv (.t 18)), none⟩]))
    (.ops [⟨(some 10), (.mv (.t 4)), none⟩,
      ⟨(some 11), (.bin .sub (.t 10) (.k (I 1))), none⟩,
      ⟨(some 4), (.mv (.t 11)), none⟩]))) ks fr H ms := rfl
def c40 : ICode :=
  (.seq (.ops [⟨(some 2), (.mv (.k nilSl)), none⟩])
  (.seq (.ops [⟨(some 3), (.mv (.k nilSl)), none⟩])
  (.seq (.seq (.ops [⟨(some 5), (.mv (.t 0)), none⟩,
    ⟨(some 6), (.len (.t 5)), none⟩,
    ⟨(some 7), (.bin .sub (.t 6) (.k (I 1))), none⟩,
    ⟨(some 4), (.mv (.t 7)), none⟩])
  (.block 0 (.loop c40L0)))
  c40T1)))
theorem w40 {x : Cx} {Q : QT} {ks : List Kont} {fr : Fr} {H : AHeap} {ms : List Nat} : W x Q c40 ks fr H ms = W x Q (.seq (.ops [⟨(some 2), (.mv (.k nilSl)), none⟩])
    (.seq (.ops [⟨(some 3), (.mv (.k nilSl)), none⟩])
    (.seq (.seq (.ops [⟨(some 5), (.mv (.t 0)), none⟩,
      ⟨(some 6), (.len (.t 5)), none⟩,
      ⟨(some 7), (.bin .sub (.t 6) (.k (I 1))), none⟩,
      ⟨(some 4), (.mv (.t 7)), none⟩])
    (.block 0 (.loop c40L0)))
    c40T1))) ks fr H ms := rfl
def r40 : List IRes := [(.tmp 2)]
theorem t40 : Try.f40.body.bind (trCode Try.prog Try.f40.ntmps) = some (strip c40) := by kernel_rfl
theorem q40 : trRes Try.prog Try.f40.results.toList = some r40 := by kernel_rfl
theorem fn40 : Try.prog.funcs[40]? = some Try.f40 := by kernel_rfl
theorem nn40 : (Try.f40.name == "runtime.NumGoroutine") = false := by kernel_rfl
theorem nt40 : Try.f40.ntmps = 20 := by kernel_rfl
def c41T1 : ICode :=
  (.keep [3] (.seq (.ops [⟨(some 21), (.mv (.t 3)), none⟩,
    ⟨(some 2), (.mv (.t 21)), none⟩])
  .ret))
theorem w41T1 {x : Cx} {Q : QT} {ks : List Kont} {fr : Fr} {H : AHeap} {ms : List Nat} : W x Q c41T1 ks fr H ms = W x Q (.keep [3] (.seq (.ops [⟨(some 21), (.mv (.t 3)), none⟩,
      ⟨(some 2), (.mv (.t 21)), none⟩])
    .ret)) ks fr H ms := rfl
/- live: [0, 3, 6, 7, 8] -/
def c41L0 : ICode :=
  (.seq (.ops [⟨(some 9), (.bin .lss (.t 8) (.t 7)), none⟩])
  (.seq (.cond (.t 9)
    .skip
    (.exit 0))
  (.seq (.block 1 (.seq (.ops [⟨(some 10), (.ixS 1 (.t 6) (.t 8)), none⟩,
    ⟨(some 11), (.load false 1 (.t 10)), none⟩,
    ⟨(some 5), (.mv (.t 11)), none⟩])
  (.ops [⟨(some 12), (.mv (.t 3)), none⟩,
    ⟨(some 13), (.mv (.t 0)), none⟩,
    ⟨(some 14), (.len (.t 13)), none⟩,
    ⟨(some 15), (.bin .sub (.t 14) (.k (I 1))), none⟩,
    ⟨(some 16), (.mv (.t 5)), none⟩,
    ⟨(some 17), (.bin .sub (.t 15) (.t 16)), none⟩,
    ⟨(some 18), (.bslice 1 1 [(I 0)] [(0, 1, (.t 17))]), none⟩,
    ⟨(some 19), (.append 1 8 (.t 12) (.t 18)), none⟩,
    ⟨(some 3), (.mv (.t 19)), none⟩])))
  (.ops [⟨(some 20), (.bin .add (.t 8) (.k (I 1))), none⟩,
    ⟨(some 8), (.mv (.t 20)), none⟩]))))
theorem w41L0 {x : Cx} {Q : QT} {ks : List Kont} {fr : Fr} {H : AHeap} {ms : List Nat} : W x Q c41L0 ks fr H ms = W x Q (.seq (.ops [⟨(some 9), (.bin .lss (.t 8) (.t 7)), none⟩])
    (.seq (.cond (.t 9)
      .skip
      (.exit 0))
    (.seq (.block 1 (.seq (.ops [⟨(some 10), (.ixS 1 (.t 6) (.t 8)), none⟩,
      ⟨(some 11), (.load false 1 (.t 10)), none⟩,
      ⟨(some 5), (.mv (.t 11)), none⟩])
    (.ops [⟨(some 12), (.mv (.t 3)), none⟩,
      ⟨(some 13), (.mv (.t 0)), none⟩,
      ⟨(some 14), (.len (.t 13)), none⟩,
      ⟨(some 15), (.bin .sub (.t 14) (.k (I 1))), none⟩,
      ⟨(some 16), (.mv (.t 5)), none⟩,
      ⟨(some 17), (.bin .sub (.t 15) (.t 16)), none⟩,
      ⟨(some 18), (.bslice 1 1 [(I 0)] [(0, 1, (.t 17))]), none⟩,
      ⟨(some 19), (.append 1 8 (.t 12) (.t 18)), none⟩,
      ⟨(some 3), (.mv (.t 19)), none⟩])))
    (.ops [⟨(some 20), (.bin .add (.t 8) (.k (I 1))), none⟩,
      ⟨(some 8), (.mv (.t 20)), none⟩])))) ks fr H ms := rfl
def c41 : ICode :=
  (.seq (.ops [⟨(some 2), (.mv (.k nilSl)), none⟩])
  (.seq (.ops [⟨(some 3), (.mv (.k nilSl)), none⟩])
  (.seq (.seq (.ops [⟨(some 6), (.mv (.t 0)), none⟩,
    ⟨(some 7), (.len (.t 6)), none⟩,
    ⟨(some 8), (.mv (.k (I 0))), none⟩])
  (.block 0 (.loop c41L0)))
  c41T1)))
theorem w41 {x : Cx} {Q : QT} {ks : List Kont} {fr : Fr} {H : AHeap} {ms : List Nat} : W x Q c41 ks fr H ms = W x Q (.seq (.ops [⟨(some 2), (.mv (.k nilSl)), none⟩])
    (.seq (.ops [⟨(some 3), (.mv (.k nilSl)), none⟩])
    (.seq (.seq (.ops [⟨(some 6), (.mv (.t 0)), none⟩,
      ⟨(some 7), (.len (.t 6)), none⟩,
      ⟨(some 8), (.mv (.k (I 0))), none⟩])
    (.block 0 (.loop c41L0)))
    c41T1))) ks fr H ms := rfl
def r41 : List IRes := [(.tmp 2)]
theorem t41 : Try.f41.body.bind (trCode Try.prog Try.f41.ntmps) = some (strip c41) := by kernel_rfl
theorem q41 : trRes Try.prog Try.f41.results.toList = some r41 := by kernel_rfl
theorem fn41 : Try.prog.funcs[41]? = some Try.f41 := by kernel_rfl
theorem nn41 : (Try.f41.name == "runtime.NumGoroutine") = false := by kernel_rfl
theorem nt41 : Try.f41.ntmps = 22 := by kernel_rfl
/- live: [0, 2, 3] -/
def c67L0 : ICode :=
  (.seq (.seq (.ops [⟨(some 7), (.mv (.t 2)), none⟩,
    ⟨(some 8), (.mv (.t 3)), none⟩,
    ⟨(some 9), (.bin .lss (.t 7) (.t 8)), none⟩])
  (.cond (.t 9)
    .skip
    (.exit 0)))
  (.seq (.block 1 (.draw 0 [] (.early 1 ⟨(some 14), (.mv (.t 0)), none⟩
    (.early 1 ⟨(some 15), (.mv (.t 2)), none⟩
    (.early 2 ⟨(some 16), (.mv (.t 0)), none⟩
    (.early 2 ⟨(some 17), (.mv (.t 3)), none⟩
    (.early 1 ⟨(some 18), (.mv (.t 0)), none⟩
    (.early 1 ⟨(some 19), (.mv (.t 3)), none⟩
    (.early 1 ⟨(some 20), (.ixS 1 (.t 18) (.t 19)), none⟩
    (.early 1 ⟨(some 21), (.load false 1 (.t 20)), none⟩
    (.early 1 ⟨(some 22), (.mv (.t 0)), none⟩
    (.early 1 ⟨(some 23), (.mv (.t 2)), none⟩
    (.early 1 ⟨(some 24), (.ixS 1 (.t 22) (.t 23)), none⟩
    (.early 1 ⟨(some 25), (.load false 1 (.t 24)), none⟩
    (.early 1 ⟨(some 26), (.ixS 1 (.t 14) (.t 15)), none⟩
    (.step 0 1 ⟨none, (.store 1 (.t 26) (.t 21)), none⟩
    (.early 0 ⟨(some 27), (.ixS 1 (.t 16) (.t 17)), none⟩
    (.step 0 0 ⟨none, (.store 1 (.t 27) (.t 25)), none⟩
    .done))))))))))))))))))
  (.ops [⟨(some 10), (.mv (.t 2)), none⟩,
    ⟨(some 11), (.bin .add (.t 10) (.k (I 1))), none⟩,
    ⟨(some 12), (.mv (.t 3)), none⟩,
    ⟨(some 13), (.bin .sub (.t 12) (.k (I 1))), none⟩,
    ⟨(some 2), (.mv (.t 11)), none⟩,
    ⟨(some 3), (.mv (.t 13)), none⟩])))
theorem w67L0 {x : Cx} {Q : QT} {ks : List Kont} {fr : Fr} {H : AHeap} {ms : List Nat} : W x Q c67L0 ks fr H ms = W x Q (.seq (.seq (.ops [⟨(some 7), (.mv (.t 2)), none⟩,
      ⟨(some 8), (.mv (.t 3)), none⟩,
      ⟨(some 9), (.bin .lss (.t 7) (.t 8)), none⟩])
    (.cond (.t 9)
      .skip
      (.exit 0)))
    (.seq (.block 1 (.draw 0 [] (.early 1 ⟨(some 14), (.mv (.t 0)), none⟩
      (.early 1 ⟨(some 15), (.mv (.t 2)), none⟩
      (.early 2 ⟨(some 16), (.mv (.t 0)), none⟩
      (.early 2 ⟨(some 17), (.mv (.t 3)), none⟩
      (.early 1 ⟨(some 18), (.mv (.t 0)), none⟩
      (.early 1 ⟨(some 19), (.mv (.t 3)), none⟩
      (.early 1 ⟨(some 20), (.ixS 1 (.t 18) (.t 19)), none⟩
      (.early 1 ⟨(some 21), (.load false 1 (.t 20)), none⟩
      (.early 1 ⟨(some 22), (.mv (.t 0)), none⟩
      (.early 1 ⟨(some 23), (.mv (.t 2)), none⟩
      (.early 1 ⟨(some 24), (.ixS 1 (.t 22) (.t 23)), none⟩
      (.early 1 ⟨(some 25), (.load false 1 (.t 24)), none⟩
      (.early 1 ⟨(some 26), (.ixS 1 (.t 14) (.t 15)), none⟩
      (.step 0 1 ⟨none, (.store 1 (.t 26) (.t 21)), none⟩
      (.early 0 ⟨(some 27), (.ixS 1 (.t 16) (.t 17)), none⟩
      (.step 0 0 ⟨none, (.store 1 (.t 27) (.t 25)), none⟩
      .done))))))))))))))))))
    (.ops [⟨(some 10), (.mv (.t 2)), none⟩,
      ⟨(some 11), (.bin .add (.t 10) (.k (I 1))), none⟩,
      ⟨(some 12), (.mv (.t 3)), none⟩,
      ⟨(some 13), (.bin .sub (.t 12) (.k (I 1))), none⟩,
      ⟨(some 2), (.mv (.t 11)), none⟩,
      ⟨(some 3), (.mv (.t 13)), none⟩]))) ks fr H ms := rfl
def c67 : ICode :=
  (.seq (.ops [⟨(some 4), (.mv (.t 0)), none⟩,
    ⟨(some 5), (.len (.t 4)), none⟩,
    ⟨(some 6), (.bin .sub (.t 5) (.k (I 1))), none⟩,
    ⟨(some 2), (.mv (.k (I 0))), none⟩,
    ⟨(some 3), (.mv (.t 6)), none⟩])
  (.block 0 (.loop c67L0)))
theorem w67 {x : Cx} {Q : QT} {ks : List Kont} {fr : Fr} {H : AHeap} {ms : List Nat} : W x Q c67 ks fr H ms = W x Q (.seq (.ops [⟨(some 4), (.mv (.t 0)), none⟩,
      ⟨(some 5), (.len (.t 4)), none⟩,
      ⟨(some 6), (.bin .sub (.t 5) (.k (I 1))), none⟩,
      ⟨(some 2), (.mv (.k (I 0))), none⟩,
      ⟨(some 3), (.mv (.t 6)), none⟩])
    (.block 0 (.loop c67L0))) ks fr H ms := rfl
def r67 : List IRes := []
theorem t67 : Try.f67.body.bind (trCode Try.prog Try.f67.ntmps) = some (strip c67) := by kernel_rfl
theorem q67 : trRes Try.prog Try.f67.results.toList = some r67 := by kernel_rfl
theorem fn67 : Try.prog.funcs[67]? = some Try.f67 := by kernel_rfl
theorem nn67 : (Try.f67.name == "runtime.NumGoroutine") = false := by kernel_rfl
theorem nt67 : Try.f67.ntmps = 28 := by kernel_rfl
def c68T1 : ICode :=
  (.keep [0, 5] (.seq (.ops [⟨(some 36), (.mv (.t 0)), none⟩,
    ⟨(some 37), (.mv (.t 5)), none⟩,
    ⟨(some 38), (.slS 1 (.t 36) (some (.t 37)) none none), none⟩,
    ⟨none, (.clr 1 [(I 0)] (.t 38)), none⟩])
  (.seq (.ops [⟨(some 39), (.mv (.t 0)), none⟩,
    ⟨(some 40), (.mv (.t 5)), none⟩,
    ⟨(some 41), (.slS 1 (.t 39) none (some (.t 40)) none), none⟩,
    ⟨(some 4), (.mv (.t 41)), none⟩])
  .ret)))
theorem w68T1 {x : Cx} {Q : QT} {ks : List Kont} {fr : Fr} {H : AHeap} {ms : List Nat} : W x Q c68T1 ks fr H ms = W x Q (.keep [0, 5] (.seq (.ops [⟨(some 36), (.mv (.t 0)), none⟩,
      ⟨(some 37), (.mv (.t 5)), none⟩,
      ⟨(some 38), (.slS 1 (.t 36) (some (.t 37)) none none), none⟩,
      ⟨none, (.clr 1 [(I 0)] (.t 38)), none⟩])
    (.seq (.ops [⟨(some 39), (.mv (.t 0)), none⟩,
      ⟨(some 40), (.mv (.t 5)), none⟩,
      ⟨(some 41), (.slS 1 (.t 39) none (some (.t 40)) none), none⟩,
      ⟨(some 4), (.mv (.t 41)), none⟩])
    .ret))) ks fr H ms := rfl
/- live: [0, 1, 5, 6] -/
def c68L0 : ICode :=
  (.seq (.seq (.ops [⟨(some 16), (.mv (.t 6)), none⟩,
    ⟨(some 17), (.mv (.t 0)), none⟩,
    ⟨(some 18), (.len (.t 17)), none⟩,
    ⟨(some 19), (.bin .lss (.t 16) (.t 18)), none⟩])
  (.cond (.t 19)
    .skip
    (.exit 0)))
  (.seq (.block 1 (.seq (.ops [⟨(some 22), (.mv (.t 0)), none⟩,
    ⟨(some 23), (.mv (.t 6)), none⟩,
    ⟨(some 24), (.ixS 1 (.t 22) (.t 23)), none⟩,
    ⟨(some 25), (.load false 1 (.t 24)), none⟩,
    ⟨(some 7), (.mv (.t 25)), none⟩])
  (.seq (.ops [⟨(some 26), (.mv (.t 1)), none⟩,
    ⟨(some 27), (.mv (.t 7)), none⟩,
    ⟨(some 28), (.call (.t 26) [(.t 27)]), none⟩,
    ⟨(some 29), (.un .not (.t 28)), none⟩])
  (.cond (.t 29)
    (.seq (.ops [⟨(some 30), (.mv (.t 0)), none⟩,
      ⟨(some 31), (.mv (.t 5)), none⟩,
      ⟨(some 32), (.mv (.t 7)), none⟩,
      ⟨(some 33), (.ixS 1 (.t 30) (.t 31)), none⟩,
      ⟨none, (.store 1 (.t 33) (.t 32)), none⟩])
    (.ops [⟨(some 34), (.mv (.t 5)), none⟩,
      ⟨(some 35), (.bin .add (.t 34) (.k (I 1))), none⟩,
      ⟨(some 5), (.mv (.t 35)), none⟩]))
    .skip))))
  (.ops [⟨(some 20), (.mv (.t 6)), none⟩,
    ⟨(some 21), (.bin .add (.t 20) (.k (I 1))), none⟩,
    ⟨(some 6), (.mv (.t 21)), none⟩])))
theorem w68L0 {x : Cx} {Q : QT} {ks : List Kont} {fr : Fr} {H : AHeap} {ms : List Nat} : W x Q c68L0 ks fr H ms = W x Q (.seq (.seq (.ops [⟨(some 16), (.mv (.t 6)), none⟩,
      ⟨(some 17), (.mv (.t 0)), none⟩,
      ⟨(some 18), (.len (.t 17)), none⟩,
      ⟨(some 19), (.bin .lss (.t 16) (.t 18)), none⟩])
    (.cond (.t 19)
      .skip
      (.exit 0)))
    (.seq (.block 1 (.seq (.ops [⟨(some 22), (.mv (.t 0)), none⟩,
      ⟨(some 23), (.mv (.t 6)), none⟩,
      ⟨(some 24), (.ixS 1 (.t 22) (.t 23)), none⟩,
      ⟨(some 25), (.load false 1 (.t 24)), none⟩,
      ⟨(some 7), (.mv (.t 25)), none⟩])
    (.seq (.ops [⟨(some 26), (.mv (.t 1)), none⟩,
      ⟨(some 27), (.mv (.t 7)), none⟩,
      ⟨(some 28), (.call (.t 26) [(.t 27)]), none⟩,
      ⟨(some 29), (.un .not (.t 28)), none⟩])
    (.cond (.t 29)
      (.seq (.ops [⟨(some 30), (.mv (.t 0)), none⟩,
        ⟨(some 31), (.mv (.t 5)), none⟩,
        ⟨(some 32), (.mv (.t 7)), none⟩,
        ⟨(some 33), (.ixS 1 (.t 30) (.t 31)), none⟩,
        ⟨none, (.store 1 (.t 33) (.t 32)), none⟩])
      (.ops [⟨(some 34), (.mv (.t 5)), none⟩,
        ⟨(some 35), (.bin .add (.t 34) (.k (I 1))), none⟩,
        ⟨(some 5), (.mv (.t 35)), none⟩]))
      .skip))))
    (.ops [⟨(some 20), (.mv (.t 6)), none⟩,
      ⟨(some 21), (.bin .add (.t 20) (.k (I 1))), none⟩,
      ⟨(some 6), (.mv (.t 21)), none⟩]))) ks fr H ms := rfl
def c68 : ICode :=
  (.seq (.ops [⟨(some 4), (.mv (.k nilSl)), none⟩])
  (.seq (.ops [⟨(some 8), (.mv (.t 0)), none⟩,
    ⟨(some 9), (.mv (.t 1)), none⟩,
    ⟨(some 10), (.call (.k (.fn (.func 77) [] [])) [(.t 8), (.t 9)]), none⟩,
    ⟨(some 5), (.mv (.t 10)), none⟩])
  (.seq (.seq (.ops [⟨(some 11), (.mv (.t 5)), none⟩,
    ⟨(some 12), (.bin .eql (.t 11) (.k (I (-1)))), none⟩])
  (.cond (.t 12)
    (.seq (.ops [⟨(some 13), (.mv (.t 0)), none⟩,
      ⟨(some 4), (.mv (.t 13)), none⟩])
    .ret)
    .skip))
  (.seq (.seq (.ops [⟨(some 14), (.mv (.t 5)), none⟩,
    ⟨(some 15), (.bin .add (.t 14) (.k (I 1))), none⟩,
    ⟨(some 6), (.mv (.t 15)), none⟩])
  (.block 0 (.loop c68L0)))
  c68T1))))
theorem w68 {x : Cx} {Q : QT} {ks : List Kont} {fr : Fr} {H : AHeap} {ms : List Nat} : W x Q c68 ks fr H ms = W x Q (.seq (.ops [⟨(some 4), (.mv (.k nilSl)), none⟩])
    (.seq (.ops [⟨(some 8), (.mv (.t 0)), none⟩,
      ⟨(some 9), (.mv (.t 1)), none⟩,
      ⟨(some 10), (.call (.k (.fn (.func 77) [] [])) [(.t 8), (.t 9)]), none⟩,
      ⟨(some 5), (.mv (.t 10)), none⟩])
    (.seq (.seq (.ops [⟨(some 11), (.mv (.t 5)), none⟩,
      ⟨(some 12), (.bin .eql (.t 11) (.k (I (-1)))), none⟩])
    (.cond (.t 12)
      (.seq (.ops [⟨(some 13), (.mv (.t 0)), none⟩,
        ⟨(some 4), (.mv (.t 13)), none⟩])
      .ret)
      .skip))
    (.seq (.seq (.ops [⟨(some 14), (.mv (.t 5)), none⟩,
      ⟨(some 15), (.bin .add (.t 14) (.k (I 1))), none⟩,
      ⟨(some 6), (.mv (.t 15)), none⟩])
    (.block 0 (.loop c68L0)))
    c68T1)))) ks fr H ms := rfl
def r68 : List IRes := [(.tmp 4)]
theorem t68 : Try.f68.body.bind (trCode Try.prog Try.f68.ntmps) = some (strip c68) := by kernel_rfl
theorem q68 : trRes Try.prog Try.f68.results.toList = some r68 := by kernel_rfl
theorem fn68 : Try.prog.funcs[68]? = some Try.f68 := by kernel_rfl
theorem nn68 : (Try.f68.name == "runtime.NumGoroutine") = false := by kernel_rfl
theorem nt68 : Try.f68.ntmps = 42 := by kernel_rfl
def c69 : ICode :=
  (.seq (.ops [⟨(some 3), (.mv (.k (B false))), none⟩])
  (.seq (.ops [⟨(some 4), (.mv (.t 0)), none⟩,
    ⟨(some 5), (.load false 1 (.t 1)), none⟩,
    ⟨(some 6), (.len (.t 5)), none⟩,
    ⟨(some 7), (.bin .sub (.t 6) (.k (I 1))), none⟩,
    ⟨(some 8), (.bin .eql (.t 4) (.t 7)), none⟩,
    ⟨(some 3), (.mv (.t 8)), none⟩])
  .ret))
theorem w69 {x : Cx} {Q : QT} {ks : List Kont} {fr : Fr} {H : AHeap} {ms : List Nat} : W x Q c69 ks fr H ms = W x Q (.seq (.ops [⟨(some 3), (.mv (.k (B false))), none⟩])
    (.seq (.ops [⟨(some 4), (.mv (.t 0)), none⟩,
      ⟨(some 5), (.load false 1 (.t 1)), none⟩,
      ⟨(some 6), (.len (.t 5)), none⟩,
      ⟨(some 7), (.bin .sub (.t 6) (.k (I 1))), none⟩,
      ⟨(some 8), (.bin .eql (.t 4) (.t 7)), none⟩,
      ⟨(some 3), (.mv (.t 8)), none⟩])
    .ret)) ks fr H ms := rfl
def r69 : List IRes := [(.tmp 3)]
theorem t69 : Try.f69.body.bind (trCode Try.prog Try.f69.ntmps) = some (strip c69) := by kernel_rfl
theorem q69 : trRes Try.prog Try.f69.results.toList = some r69 := by kernel_rfl
theorem fn69 : Try.prog.funcs[69]? = some Try.f69 := by kernel_rfl
theorem nn69 : (Try.f69.name == "runtime.NumGoroutine") = false := by kernel_rfl
theorem nt69 : Try.f69.ntmps = 9 := by kernel_rfl
def c77T1 : ICode :=
  (.keep [] (.seq (.ops [⟨(some 4), (.mv (.k (I (-1)))), none⟩])
  .ret))
theorem w77T1 {x : Cx} {Q : QT} {ks : List Kont} {fr : Fr} {H : AHeap} {ms : List Nat} : W x Q c77T1 ks fr H ms = W x Q (.keep [] (.seq (.ops [⟨(some 4), (.mv (.k (I (-1)))), none⟩])
    .ret)) ks fr H ms := rfl
/- live: [0, 1, 7, 8] -/
def c77L0 : ICode :=
  (.seq (.ops [⟨(some 9), (.bin .lss (.t 8) (.t 7)), none⟩])
  (.seq (.cond (.t 9)
    .skip
    (.exit 0))
  (.seq (.block 1 (.seq (.ops [⟨(some 10), (.mv (.t 8)), none⟩,
    ⟨(some 5), (.mv (.t 10)), none⟩])
  (.seq (.ops [⟨(some 11), (.mv (.t 1)), none⟩,
    ⟨(some 12), (.mv (.t 0)), none⟩,
    ⟨(some 13), (.mv (.t 5)), none⟩,
    ⟨(some 14), (.ixS 1 (.t 12) (.t 13)), none⟩,
    ⟨(some 15), (.load false 1 (.t 14)), none⟩,
    ⟨(some 16), (.call (.t 11) [(.t 15)]), none⟩])
  (.cond (.t 16)
    (.seq (.ops [⟨(some 17), (.mv (.t 5)), none⟩,
      ⟨(some 4), (.mv (.t 17)), none⟩])
    .ret)
    .skip))))
  (.ops [⟨(some 18), (.bin .add (.t 8) (.k (I 1))), none⟩,
    ⟨(some 8), (.mv (.t 18)), none⟩]))))
theorem w77L0 {x : Cx} {Q : QT} {ks : List Kont} {fr : Fr} {H : AHeap} {ms : List Nat} : W x Q c77L0 ks fr H ms = W x Q (.seq (.ops [⟨(some 9), (.bin .lss (.t 8) (.t 7)), none⟩])
    (.seq (.cond (.t 9)
      .skip
      (.exit 0))
    (.seq (.block 1 (.seq (.ops [⟨(some 10), (.mv (.t 8)), none⟩,
      ⟨(some 5), (.mv (.t 10)), none⟩])
    (.seq (.ops [⟨(some 11), (.mv (.t 1)), none⟩,
      ⟨(some 12), (.mv (.t 0)), none⟩,
      ⟨(some 13), (.mv (.t 5)), none⟩,
      ⟨(some 14), (.ixS 1 (.t 12) (.t 13)), none⟩,
      ⟨(some 15), (.load false 1 (.t 14)), none⟩,
      ⟨(some 16), (.call (.t 11) [(.t 15)]), none⟩])
    (.cond (.t 16)
      (.seq (.ops [⟨(some 17), (.mv (.t 5)), none⟩,
        ⟨(some 4), (.mv (.t 17)), none⟩])
      .ret)
      .skip))))
    (.ops [⟨(some 18), (.bin .add (.t 8) (.k (I 1))), none⟩,
      ⟨(some 8), (.mv (.t 18)), none⟩])))) ks fr H ms := rfl
def c77 : ICode :=
  (.seq (.ops [⟨(some 4), (.mv (.k (I 0))), none⟩])
  (.seq (.seq (.ops [⟨(some 6), (.mv (.t 0)), none⟩,
    ⟨(some 7), (.len (.t 6)), none⟩,
    ⟨(some 8), (.mv (.k (I 0))), none⟩])
  (.block 0 (.loop c77L0)))
  c77T1))
theorem w77 {x : Cx} {Q : QT} {ks : List Kont} {fr : Fr} {H : AHeap} {ms : List Nat} : W x Q c77 ks fr H ms = W x Q (.seq (.ops [⟨(some 4), (.mv (.k (I 0))), none⟩])
    (.seq (.seq (.ops [⟨(some 6), (.mv (.t 0)), none⟩,
      ⟨(some 7), (.len (.t 6)), none⟩,
      ⟨(some 8), (.mv (.k (I 0))), none⟩])
    (.block 0 (.loop c77L0)))
    c77T1)) ks fr H ms := rfl
def r77 : List IRes := [(.tmp 4)]
theorem t77 : Try.f77.body.bind (trCode Try.prog Try.f77.ntmps) = some (strip c77) := by kernel_rfl
theorem q77 : trRes Try.prog Try.f77.results.toList = some r77 := by kernel_rfl
theorem fn77 : Try.prog.funcs[77]? = some Try.f77 := by kernel_rfl
theorem nn77 : (Try.f77.name == "runtime.NumGoroutine") = false := by kernel_rfl
theorem nt77 : Try.f77.ntmps = 19 := by kernel_rfl
def c10 : ICode :=
  (.seq (.ops [⟨(some 2), (.mv (.k (B false))), none⟩])
  (.seq (.ops [⟨(some 8), (.mv (.t 0)), none⟩,
    ⟨(some 9), (.call (.k (.fn (.func 16) [] [])) [(.t 8)]), none⟩,
    ⟨(some 10), (.call (.k (.fn (.func 38) [] [])) [(.t 9)]), none⟩,
    ⟨(some 7), (.mv (.t 10)), none⟩,
    ⟨(some 11), (.ext (.t 7) 0), none⟩,
    ⟨(some 12), (.ext (.t 7) 1), none⟩,
    ⟨(some 3), (.mv (.t 11)), none⟩,
    ⟨(some 4), (.mv (.t 12)), none⟩])
  (.seq (.ops [⟨(some 14), (.mv (.t 0)), none⟩,
    ⟨(some 15), (.call (.k (.fn (.func 16) [] [])) [(.t 14)]), none⟩,
    ⟨(some 16), (.call (.k (.fn (.func 39) [] [])) [(.t 15)]), none⟩,
    ⟨(some 13), (.mv (.t 16)), none⟩,
    ⟨(some 17), (.ext (.t 13) 0), none⟩,
    ⟨(some 18), (.ext (.t 13) 1), none⟩,
    ⟨(some 5), (.mv (.t 17)), none⟩,
    ⟨(some 6), (.mv (.t 18)), none⟩])
  (.seq (.seq (.ops [⟨(some 19), (.mv (.t 0)), none⟩,
    ⟨(some 20), (.call (.k (.fn (.func 17) [] [])) [(.t 19)]), none⟩,
    ⟨(some 21), (.un .not (.t 20)), none⟩])
  (.cond (.t 21)
    (.seq (.ops [⟨(some 22), (.mv (.t 3)), none⟩,
      ⟨(some 23), (.len (.t 22)), none⟩,
      ⟨(some 24), (.mv (.t 5)), none⟩,
      ⟨(some 25), (.len (.t 24)), none⟩,
      ⟨(some 26), (.bin .add (.t 23) (.t 25)), none⟩,
      ⟨(some 27), (.bin .eql (.t 26) (.k (I 0))), none⟩,
      ⟨(some 28), (.mv (.t 27)), none⟩,
      ⟨(some 29), (.mv (.t 4)), (some (28, true))⟩,
      ⟨(some 30), (.bin .eql (.t 29) (.k (I 2))), (some (28, true))⟩,
      ⟨(some 31), (.pick (.t 28) (.t 30) (.k (B false))), none⟩,
      ⟨(some 32), (.mv (.t 31)), none⟩,
      ⟨(some 33), (.mv (.t 6)), (some (32, true))⟩,
      ⟨(some 34), (.bin .eql (.t 33) (.k (I 2))), (some (32, true))⟩,
      ⟨(some 35), (.pick (.t 32) (.t 34) (.k (B false))), none⟩,
      ⟨(some 36), (.mv (.t 35)), none⟩,
      ⟨(some 37), (.call (.k (.fn (.func 18) [] [])) []), (some (36, true))⟩,
      ⟨(some 38), (.pick (.t 36) (.t 37) (.k (B false))), none⟩,
      ⟨(some 2), (.mv (.t 38)), none⟩])
    .ret)
    .skip))
  (.seq (.ops [⟨(some 39), (.mv (.t 3)), none⟩,
    ⟨(some 40), (.mv (.t 0)), none⟩,
    ⟨(some 41), (.call (.k (.fn (.func 40) [] [])) [(.t 40)]), none⟩,
    ⟨(some 42), (.call (.k (.fn (.func 32) [] [])) [(.t 39), (.t 41)]), none⟩,
    ⟨(some 43), (.mv (.t 42)), none⟩,
    ⟨(some 44), (.mv (.t 5)), (some (43, true))⟩,
    ⟨(some 45), (.mv (.t 0)), (some (43, true))⟩,
    ⟨(some 46), (.call (.k (.fn (.func 41) [] [])) [(.t 45)]), (some (43, true))⟩,
    ⟨(some 47), (.call (.k (.fn (.func 32) [] [])) [(.t 44), (.t 46)]), (some (43, true))⟩,
    ⟨(some 48), (.pick (.t 43) (.t 47) (.k (B false))), none⟩,
    ⟨(some 49), (.mv (.t 48)), none⟩,
    ⟨(some 50), (.mv (.t 4)), (some (49, true))⟩,
    ⟨(some 51), (.bin .eql (.t 50) (.k (I 0))), (some (49, true))⟩,
    ⟨(some 52), (.pick (.t 49) (.t 51) (.k (B false))), none⟩,
    ⟨(some 53), (.mv (.t 52)), none⟩,
    ⟨(some 54), (.mv (.t 6)), (some (53, true))⟩,
    ⟨(some 55), (.bin .eql (.t 54) (.k (I 0))), (some (53, true))⟩,
    ⟨(some 56), (.pick (.t 53) (.t 55) (.k (B false))), none⟩,
    ⟨(some 57), (.mv (.t 56)), none⟩,
    ⟨(some 58), (.call (.k (.fn (.func 18) [] [])) []), (some (57, true))⟩,
    ⟨(some 59), (.pick (.t 57) (.t 58) (.k (B false))), none⟩,
    ⟨(some 2), (.mv (.t 59)), none⟩])
  .ret)))))
theorem w10 {x : Cx} {Q : QT} {ks : List Kont} {fr : Fr} {H : AHeap} {ms : List Nat} : W x Q c10 ks fr H ms = W x Q (.seq (.ops [⟨(some 2), (.mv (.k (B false))), none⟩])
    (.seq (.ops [⟨(some 8), (.mv (.t 0)), none⟩,
      ⟨(some 9), (.call (.k (.fn (.func 16) [] [])) [(.t 8)]), none⟩,
      ⟨(some 10), (.call (.k (.fn (.func 38) [] [])) [(.t 9)]), none⟩,
      ⟨(some 7), (.mv (.t 10)), none⟩,
      ⟨(some 11), (.ext (.t 7) 0), none⟩,
      ⟨(some 12), (.ext (.t 7) 1), none⟩,
      ⟨(some 3), (.mv (.t 11)), none⟩,
      ⟨(some 4), (.mv (.t 12)), none⟩])
    (.seq (.ops [⟨(some 14), (.mv (.t 0)), none⟩,
      ⟨(some 15), (.call (.k (.fn (.func 16) [] [])) [(.t 14)]), none⟩,
      ⟨(some 16), (.call (.k (.fn (.func 39) [] [])) [(.t 15)]), none⟩,
      ⟨(some 13), (.mv (.t 16)), none⟩,
      ⟨(some 17), (.ext (.t 13) 0), none⟩,
      ⟨(some 18), (.ext (.t 13) 1), none⟩,
      ⟨(some 5), (.mv (.t 17)), none⟩,
      ⟨(some 6), (.mv (.t 18)), none⟩])
    (.seq (.seq (.ops [⟨(some 19), (.mv (.t 0)), none⟩,
      ⟨(some 20), (.call (.k (.fn (.func 17) [] [])) [(.t 19)]), none⟩,
      ⟨(some 21), (.un .not (.t 20)), none⟩])
    (.cond (.t 21)
      (.seq (.ops [⟨(some 22), (.mv (.t 3)), none⟩,
        ⟨(some 23), (.len (.t 22)), none⟩,
        ⟨(some 24), (.mv (.t 5)), none⟩,
        ⟨(some 25), (.len (.t 24)), none⟩,
        ⟨(some 26), (.bin .add (.t 23) (.t 25)), none⟩,
        ⟨(some 27), (.bin .eql (.t 26) (.k (I 0))), none⟩,
        ⟨(some 28), (.mv (.t 27)), none⟩,
        ⟨(some 29), (.mv (.t 4)), (some (28, true))⟩,
        ⟨(some 30), (.bin .eql (.t 29) (.k (I 2))), (some (28, true))⟩,
        ⟨(some 31), (.pick (.t 28) (.t 30) (.k (B false))), none⟩,
        ⟨(some 32), (.mv (.t 31)), none⟩,
        ⟨(some 33), (.mv (.t 6)), (some (32, true))⟩,
        ⟨(some 34), (.bin .eql (.t 33) (.k (I 2))), (some (32, true))⟩,
        ⟨(some 35), (.pick (.t 32) (.t 34) (.k (B false))), none⟩,
        ⟨(some 36), (.mv (.t 35)), none⟩,
        ⟨(some 37), (.call (.k (.fn (.func 18) [] [])) []), (some (36, true))⟩,
        ⟨(some 38), (.pick (.t 36) (.t 37) (.k (B false))), none⟩,
        ⟨(some 2), (.mv (.t 38)), none⟩])
      .ret)
      .skip))
    (.seq (.ops [⟨(some 39), (.mv (.t 3)), none⟩,
      ⟨(some 40), (.mv (.t 0)), none⟩,
      ⟨(some 41), (.call (.k (.fn (.func 40) [] [])) [(.t 40)]), none⟩,
      ⟨(some 42), (.call (.k (.fn (.func 32) [] [])) [(.t 39), (.t 41)]), none⟩,
      ⟨(some 43), (.mv (.t 42)), none⟩,
      ⟨(some 44), (.mv (.t 5)), (some (43, true))⟩,
      ⟨(some 45), (.mv (.t 0)), (some (43, true))⟩,
      ⟨(some 46), (.call (.k (.fn (.func 41) [] [])) [(.t 45)]), (some (43, true))⟩,
      ⟨(some 47), (.call (.k (.fn (.func 32) [] [])) [(.t 44), (.t 46)]), (some (43, true))⟩,
      ⟨(some 48), (.pick (.t 43) (.t 47) (.k (B false))), none⟩,
      ⟨(some 49), (.mv (.t 48)), none⟩,
      ⟨(some 50), (.mv (.t 4)), (some (49, true))⟩,
      ⟨(some 51), (.bin .eql (.t 50) (.k (I 0))), (some (49, true))⟩,
      ⟨(some 52), (.pick (.t 49) (.t 51) (.k (B false))), none⟩,
      ⟨(some 53), (.mv (.t 52)), none⟩,
      ⟨(some 54), (.mv (.t 6)), (some (53, true))⟩,
      ⟨(some 55), (.bin .eql (.t 54) (.k (I 0))), (some (53, true))⟩,
      ⟨(some 56), (.pick (.t 53) (.t 55) (.k (B false))), none⟩,
      ⟨(some 57), (.mv (.t 56)), none⟩,
      ⟨(some 58), (.call (.k (.fn (.func 18) [] [])) []), (some (57, true))⟩,
      ⟨(some 59), (.pick (.t 57) (.t 58) (.k (B false))), none⟩,
      ⟨(some 2), (.mv (.t 59)), none⟩])
    .ret))))) ks fr H ms := rfl
def r10 : List IRes := [(.tmp 2)]
theorem t10 : Try.f10.body.bind (trCode Try.prog Try.f10.ntmps) = some (strip c10) := by kernel_rfl
theorem q10 : trRes Try.prog Try.f10.results.toList = some r10 := by kernel_rfl
theorem fn10 : Try.prog.funcs[10]? = some Try.f10 := by kernel_rfl
theorem nn10 : (Try.f10.name == "runtime.NumGoroutine") = false := by kernel_rfl
theorem nt10 : Try.f10.ntmps = 60 := by kernel_rfl
def c12 : ICode :=
  (.seq (.ops [⟨(some 2), (.mv (.k (B false))), none⟩])
  (.seq (.ops [⟨(some 20), (.mv (.t 0)), none⟩,
    ⟨(some 21), (.call (.k (.fn (.func 16) [] [])) [(.t 20)]), none⟩,
    ⟨(some 22), (.call (.k (.fn (.func 38) [] [])) [(.t 21)]), none⟩,
    ⟨(some 19), (.mv (.t 22)), none⟩,
    ⟨(some 23), (.ext (.t 19) 0), none⟩,
    ⟨(some 24), (.ext (.t 19) 1), none⟩,
    ⟨(some 3), (.mv (.t 23)), none⟩,
    ⟨(some 4), (.mv (.t 24)), none⟩])
  (.seq (.ops [⟨(some 26), (.mv (.t 0)), none⟩,
    ⟨(some 27), (.call (.k (.fn (.func 16) [] [])) [(.t 26)]), none⟩,
    ⟨(some 28), (.call (.k (.fn (.func 39) [] [])) [(.t 27)]), none⟩,
    ⟨(some 25), (.mv (.t 28)), none⟩,
    ⟨(some 29), (.ext (.t 25) 0), none⟩,
    ⟨(some 30), (.ext (.t 25) 1), none⟩,
    ⟨(some 5), (.mv (.t 29)), none⟩,
    ⟨(some 6), (.mv (.t 30)), none⟩])
  (.seq (.seq (.ops [⟨(some 31), (.mv (.t 4)), none⟩,
    ⟨(some 32), (.bin .neq (.t 31) (.k (I 0))), none⟩,
    ⟨(some 33), (.mv (.t 32)), none⟩,
    ⟨(some 34), (.mv (.t 6)), (some (33, false))⟩,
    ⟨(some 35), (.bin .neq (.t 34) (.k (I 0))), (some (33, false))⟩,
    ⟨(some 36), (.pick (.t 33) (.k (B true)) (.t 35)), none⟩,
    ⟨(some 37), (.mv (.t 36)), none⟩,
    ⟨(some 38), (.mv (.t 0)), (some (37, false))⟩,
    ⟨(some 39), (.call (.k (.fn (.func 17) [] [])) [(.t 38)]), (some (37, false))⟩,
    ⟨(some 40), (.un .not (.t 39)), (some (37, false))⟩,
    ⟨(some 41), (.pick (.t 37) (.k (B true)) (.t 40)), none⟩])
  (.cond (.t 41)
    (.seq (.ops [⟨(some 42), (.mv (.t 4)), none⟩,
      ⟨(some 43), (.bin .eql (.t 42) (.k (I 2))), none⟩,
      ⟨(some 44), (.mv (.t 43)), none⟩,
      ⟨(some 45), (.mv (.t 6)), (some (44, true))⟩,
      ⟨(some 46), (.mv (.t 4)), (some (44, true))⟩,
      ⟨(some 47), (.bin .eql (.t 45) (.t 46)), (some (44, true))⟩,
      ⟨(some 48), (.pick (.t 44) (.t 47) (.k (B false))), none⟩,
      ⟨(some 49), (.mv (.t 48)), none⟩,
      ⟨(some 50), (.call (.k (.fn (.func 18) [] [])) []), (some (49, true))⟩,
      ⟨(some 51), (.pick (.t 49) (.t 50) (.k (B false))), none⟩,
      ⟨(some 2), (.mv (.t 51)), none⟩])
    .ret)
    .skip))
  (.seq (.ops [⟨(some 53), (.mv (.t 0)), none⟩,
    ⟨(some 54), (.call (.k (.fn (.func 16) [] [])) [(.t 53)]), none⟩,
    ⟨(some 55), (.call (.k (.fn (.func 15) [] [])) [(.t 54)]), none⟩,
    ⟨(some 52), (.mv (.t 55)), none⟩,
    ⟨(some 56), (.ext (.t 52) 0), none⟩,
    ⟨(some 57), (.ext (.t 52) 1), none⟩,
    ⟨(some 7), (.mv (.t 56)), none⟩,
    ⟨(some 8), (.mv (.t 57)), none⟩])
  (.seq (.ops [⟨(some 59), (.mv (.t 3)), none⟩,
    ⟨(some 60), (.call (.k (.fn (.func 44) [] [])) [(.t 59)]), none⟩,
    ⟨(some 61), (.call (.k (.fn (.func 15) [] [])) [(.t 60)]), none⟩,
    ⟨(some 58), (.mv (.t 61)), none⟩,
    ⟨(some 62), (.ext (.t 58) 0), none⟩,
    ⟨(some 63), (.ext (.t 58) 1), none⟩,
    ⟨(some 9), (.mv (.t 62)), none⟩,
    ⟨(some 10), (.mv (.t 63)), none⟩])
  (.seq (.ops [⟨(some 65), (.mv (.t 5)), none⟩,
    ⟨(some 66), (.call (.k (.fn (.func 44) [] [])) [(.t 65)]), none⟩,
    ⟨(some 67), (.call (.k (.fn (.func 15) [] [])) [(.t 66)]), none⟩,
    ⟨(some 64), (.mv (.t 67)), none⟩,
    ⟨(some 68), (.ext (.t 64) 0), none⟩,
    ⟨(some 69), (.ext (.t 64) 1), none⟩,
    ⟨(some 11), (.mv (.t 68)), none⟩,
    ⟨(some 12), (.mv (.t 69)), none⟩])
  (.seq (.ops [⟨(some 71), (.mv (.t 3)), none⟩,
    ⟨(some 72), (.call (.k (.fn (.func 44) [] [])) [(.t 71)]), none⟩,
    ⟨(some 73), (.call (.k (.fn (.func 38) [] [])) [(.t 72)]), none⟩,
    ⟨(some 70), (.mv (.t 73)), none⟩,
    ⟨(some 74), (.ext (.t 70) 0), none⟩,
    ⟨(some 75), (.ext (.t 70) 1), none⟩,
    ⟨(some 13), (.mv (.t 74)), none⟩,
    ⟨(some 14), (.mv (.t 75)), none⟩])
  (.seq (.ops [⟨(some 77), (.mv (.t 5)), none⟩,
    ⟨(some 78), (.call (.k (.fn (.func 44) [] [])) [(.t 77)]), none⟩,
    ⟨(some 79), (.call (.k (.fn (.func 39) [] [])) [(.t 78)]), none⟩,
    ⟨(some 76), (.mv (.t 79)), none⟩,
    ⟨(some 80), (.ext (.t 76) 0), none⟩,
    ⟨(some 81), (.ext (.t 76) 1), none⟩,
    ⟨(some 15), (.mv (.t 80)), none⟩,
    ⟨(some 16), (.mv (.t 81)), none⟩])
  (.seq (.seq (.ops [⟨(some 82), (.mv (.t 8)), none⟩,
    ⟨(some 83), (.bin .neq (.t 82) (.k (I 0))), none⟩,
    ⟨(some 84), (.mv (.t 83)), none⟩,
    ⟨(some 85), (.mv (.t 10)), (some (84, false))⟩,
    ⟨(some 86), (.bin .neq (.t 85) (.k (I 0))), (some (84, false))⟩,
    ⟨(some 87), (.pick (.t 84) (.k (B true)) (.t 86)), none⟩,
    ⟨(some 88), (.mv (.t 87)), none⟩,
    ⟨(some 89), (.mv (.t 12)), (some (88, false))⟩,
    ⟨(some 90), (.bin .neq (.t 89) (.k (I 0))), (some (88, false))⟩,
    ⟨(some 91), (.pick (.t 88) (.k (B true)) (.t 90)), none⟩,
    ⟨(some 92), (.mv (.t 91)), none⟩,
    ⟨(some 93), (.mv (.t 14)), (some (92, false))⟩,
    ⟨(some 94), (.bin .neq (.t 93) (.k (I 0))), (some (92, false))⟩,
    ⟨(some 95), (.pick (.t 92) (.k (B true)) (.t 94)), none⟩,
    ⟨(some 96), (.mv (.t 95)), none⟩,
    ⟨(some 97), (.mv (.t 16)), (some (96, false))⟩,
    ⟨(some 98), (.bin .neq (.t 97) (.k (I 0))), (some (96, false))⟩,
    ⟨(some 99), (.pick (.t 96) (.k (B true)) (.t 98)), none⟩,
    ⟨(some 100), (.mv (.t 99)), none⟩,
    ⟨(some 101), (.mv (.t 7)), (some (100, false))⟩,
    ⟨(some 102), (.mv (.t 9)), (some (100, false))⟩,
    ⟨(some 103), (.eqb true (.t 101) (.t 102)), (some (100, false))⟩,
    ⟨(some 104), (.pick (.t 100) (.k (B true)) (.t 103)), none⟩,
    ⟨(some 105), (.mv (.t 104)), none⟩,
    ⟨(some 106), (.mv (.t 7)), (some (105, false))⟩,
    ⟨(some 107), (.mv (.t 11)), (some (105, false))⟩,
    ⟨(some 108), (.eqb true (.t 106) (.t 107)), (some (105, false))⟩,
    ⟨(some 109), (.pick (.t 105) (.k (B true)) (.t 108)), none⟩,
    ⟨(some 110), (.mv (.t 109)), none⟩,
    ⟨(some 111), (.mv (.t 13)), (some (110, false))⟩,
    ⟨(some 112), (.mv (.t 0)), (some (110, false))⟩,
    ⟨(some 113), (.call (.k (.fn (.func 32) [] [])) [(.t 111), (.t 112)]), (some (110, false))⟩,
    ⟨(some 114), (.un .not (.t 113)), (some (110, false))⟩,
    ⟨(some 115), (.pick (.t 110) (.k (B true)) (.t 114)), none⟩,
    ⟨(some 116), (.mv (.t 115)), none⟩,
    ⟨(some 117), (.mv (.t 15)), (some (116, false))⟩,
    ⟨(some 118), (.mv (.t 0)), (some (116, false))⟩,
    ⟨(some 119), (.call (.k (.fn (.func 32) [] [])) [(.t 117), (.t 118)]), (some (116, false))⟩,
    ⟨(some 120), (.un .not (.t 119)), (some (116, false))⟩,
    ⟨(some 121), (.pick (.t 116) (.k (B true)) (.t 120)), none⟩])
  (.cond (.t 121)
    (.seq (.ops [⟨(some 2), (.mv (.k (B false))), none⟩])
    .ret)
    .skip))
  (.seq (.ops [⟨(some 123), (.mv (.t 0)), none⟩,
    ⟨(some 124), (.call (.k (.fn (.func 16) [] [])) [(.t 123)]), none⟩,
    ⟨(some 125), (.call (.k (.fn (.func 42) [] [])) [(.t 124)]), none⟩,
    ⟨(some 122), (.mv (.t 125)), none⟩,
    ⟨(some 126), (.ext (.t 122) 0), none⟩,
    ⟨(some 127), (.ext (.t 122) 1), none⟩,
    ⟨(some 17), (.mv (.t 126)), none⟩,
    ⟨(some 8), (.mv (.t 127)), none⟩])
  (.seq (.ops [⟨(some 129), (.mv (.t 3)), none⟩,
    ⟨(some 130), (.call (.k (.fn (.func 42) [] [])) [(.t 129)]), none⟩,
    ⟨(some 128), (.mv (.t 130)), none⟩,
    ⟨(some 131), (.ext (.t 128) 0), none⟩,
    ⟨(some 132), (.ext (.t 128) 1), none⟩,
    ⟨(some 18), (.mv (.t 131)), none⟩,
    ⟨(some 10), (.mv (.t 132)), none⟩])
  (.seq (.seq (.ops [⟨(some 133), (.mv (.t 7)), none⟩,
    ⟨(some 134), (.un .not (.t 133)), none⟩])
  (.cond (.t 134)
    (.seq (.ops [⟨(some 135), (.mv (.t 8)), none⟩,
      ⟨(some 136), (.bin .eql (.t 135) (.k (I 5))), none⟩,
      ⟨(some 137), (.mv (.t 136)), none⟩,
      ⟨(some 138), (.mv (.t 10)), (some (137, true))⟩,
      ⟨(some 139), (.bin .eql (.t 138) (.k (I 5))), (some (137, true))⟩,
      ⟨(some 140), (.pick (.t 137) (.t 139) (.k (B false))), none⟩,
      ⟨(some 141), (.mv (.t 140)), none⟩,
      ⟨(some 142), (.call (.k (.fn (.func 18) [] [])) []), (some (141, true))⟩,
      ⟨(some 143), (.pick (.t 141) (.t 142) (.k (B false))), none⟩,
      ⟨(some 2), (.mv (.t 143)), none⟩])
    .ret)
    .skip))
  (.seq (.ops [⟨(some 144), (.mv (.t 8)), none⟩,
    ⟨(some 145), (.bin .eql (.t 144) (.k (I 0))), none⟩,
    ⟨(some 146), (.mv (.t 145)), none⟩,
    ⟨(some 147), (.mv (.t 10)), (some (146, true))⟩,
    ⟨(some 148), (.bin .eql (.t 147) (.k (I 0))), (some (146, true))⟩,
    ⟨(some 149), (.pick (.t 146) (.t 148) (.k (B false))), none⟩,
    ⟨(some 150), (.mv (.t 149)), none⟩,
    ⟨(some 151), (.mv (.t 17)), (some (150, true))⟩,
    ⟨(some 152), (.mv (.t 18)), (some (150, true))⟩,
    ⟨(some 153), (.bin .xor (.t 151) (.t 152)), (some (150, true))⟩,
    ⟨(some 154), (.mv (.t 0)), (some (150, true))⟩,
    ⟨(some 155), (.len (.t 154)), (some (150, true))⟩,
    ⟨(some 156), (.bin .sub (.t 155) (.k (I 1))), (some (150, true))⟩,
    ⟨(some 157), (.bin .shl (.k (I 1)) (.t 156)), (some (150, true))⟩,
    ⟨(some 158), (.bin .sub (.t 157) (.k (I 1))), (some (150, true))⟩,
    ⟨(some 159), (.bin .eql (.t 153) (.t 158)), (some (150, true))⟩,
    ⟨(some 160), (.pick (.t 150) (.t 159) (.k (B false))), none⟩,
    ⟨(some 161), (.mv (.t 160)), none⟩,
    ⟨(some 162), (.call (.k (.fn (.func 18) [] [])) []), (some (161, true))⟩,
    ⟨(some 163), (.pick (.t 161) (.t 162) (.k (B false))), none⟩,
    ⟨(some 2), (.mv (.t 163)), none⟩])
  .ret))))))))))))))
theorem w12 {x : Cx} {Q : QT} {ks : List Kont} {fr : Fr} {H : AHeap} {ms : List Nat} : W x Q c12 ks fr H ms = W x Q (.seq (.ops [⟨(some 2), (.mv (.k (B false))), none⟩])
    (.seq (.ops [⟨(some 20), (.mv (.t 0)), none⟩,
      ⟨(some 21), (.call (.k (.fn (.func 16) [] [])) [(.t 20)]), none⟩,
      ⟨(some 22), (.call (.k (.fn (.func 38) [] [])) [(.t 21)]), none⟩,
      ⟨(some 19), (.mv (.t 22)), none⟩,
      ⟨(some 23), (.ext (.t 19) 0), none⟩,
      ⟨(some 24), (.ext (.t 19) 1), none⟩,
      ⟨(some 3), (.mv (.t 23)), none⟩,
      ⟨(some 4), (.mv (.t 24)), none⟩])
    (.seq (.ops [⟨(some 26), (.mv (.t 0)), none⟩,
      ⟨(some 27), (.call (.k (.fn (.func 16) [] [])) [(.t 26)]), none⟩,
      ⟨(some 28), (.call (.k (.fn (.func 39) [] [])) [(.t 27)]), none⟩,
      ⟨(some 25), (.mv (.t 28)), none⟩,
      ⟨(some 29), (.ext (.t 25) 0), none⟩,
      ⟨(some 30), (.ext (.t 25) 1), none⟩,
      ⟨(some 5), (.mv (.t 29)), none⟩,
      ⟨(some 6), (.mv (.t 30)), none⟩])
    (.seq (.seq (.ops [⟨(some 31), (.mv (.t 4)), none⟩,
      ⟨(some 32), (.bin .neq (.t 31) (.k (I 0))), none⟩,
      ⟨(some 33), (.mv (.t 32)), none⟩,
      ⟨(some 34), (.mv (.t 6)), (some (33, false))⟩,
      ⟨(some 35), (.bin .neq (.t 34) (.k (I 0))), (some (33, false))⟩,
      ⟨(some 36), (.pick (.t 33) (.k (B true)) (.t 35)), none⟩,
      ⟨(some 37), (.mv (.t 36)), none⟩,
      ⟨(some 38), (.mv (.t 0)), (some (37, false))⟩,
      ⟨(some 39), (.call (.k (.fn (.func 17) [] [])) [(.t 38)]), (some (37, false))⟩,
      ⟨(some 40), (.un .not (.t 39)), (some (37, false))⟩,
      ⟨(some 41), (.pick (.t 37) (.k (B true)) (.t 40)), none⟩])
    (.cond (.t 41)
      (.seq (.ops [⟨(some 42), (.mv (.t 4)), none⟩,
        ⟨(some 43), (.bin .eql (.t 42) (.k (I 2))), none⟩,
        ⟨(some 44), (.mv (.t 43)), none⟩,
        ⟨(some 45), (.mv (.t 6)), (some (44, true))⟩,
        ⟨(some 46), (.mv (.t 4)), (some (44, true))⟩,
        ⟨(some 47), (.bin .eql (.t 45) (.t 46)), (some (44, true))⟩,
        ⟨(some 48), (.pick (.t 44) (.t 47) (.k (B false))), none⟩,
        ⟨(some 49), (.mv (.t 48)), none⟩,
        ⟨(some 50), (.call (.k (.fn (.func 18) [] [])) []), (some (49, true))⟩,
        ⟨(some 51), (.pick (.t 49) (.t 50) (.k (B false))), none⟩,
        ⟨(some 2), (.mv (.t 51)), none⟩])
      .ret)
      .skip))
    (.seq (.ops [⟨(some 53), (.mv (.t 0)), none⟩,
      ⟨(some 54), (.call (.k (.fn (.func 16) [] [])) [(.t 53)]), none⟩,
      ⟨(some 55), (.call (.k (.fn (.func 15) [] [])) [(.t 54)]), none⟩,
      ⟨(some 52), (.mv (.t 55)), none⟩,
      ⟨(some 56), (.ext (.t 52) 0), none⟩,
      ⟨(some 57), (.ext (.t 52) 1), none⟩,
      ⟨(some 7), (.mv (.t 56)), none⟩,
      ⟨(some 8), (.mv (.t 57)), none⟩])
    (.seq (.ops [⟨(some 59), (.mv (.t 3)), none⟩,
      ⟨(some 60), (.call (.k (.fn (.func 44) [] [])) [(.t 59)]), none⟩,
      ⟨(some 61), (.call (.k (.fn (.func 15) [] [])) [(.t 60)]), none⟩,
      ⟨(some 58), (.mv (.t 61)), none⟩,
      ⟨(some 62), (.ext (.t 58) 0), none⟩,
      ⟨(some 63), (.ext (.t 58) 1), none⟩,
      ⟨(some 9), (.mv (.t 62)), none⟩,
      ⟨(some 10), (.mv (.t 63)), none⟩])
    (.seq (.ops [⟨(some 65), (.mv (.t 5)), none⟩,
      ⟨(some 66), (.call (.k (.fn (.func 44) [] [])) [(.t 65)]), none⟩,
      ⟨(some 67), (.call (.k (.fn (.func 15) [] [])) [(.t 66)]), none⟩,
      ⟨(some 64), (.mv (.t 67)), none⟩,
      ⟨(some 68), (.ext (.t 64) 0), none⟩,
      ⟨(some 69), (.ext (.t 64) 1), none⟩,
      ⟨(some 11), (.mv (.t 68)), none⟩,
      ⟨(some 12), (.mv (.t 69)), none⟩])
    (.seq (.ops [⟨(some 71), (.mv (.t 3)), none⟩,
      ⟨(some 72), (.call (.k (.fn (.func 44) [] [])) [(.t 71)]), none⟩,
      ⟨(some 73), (.call (.k (.fn (.func 38) [] [])) [(.t 72)]), none⟩,
      ⟨(some 70), (.mv (.t 73)), none⟩,
      ⟨(some 74), (.ext (.t 70) 0), none⟩,
      ⟨(some 75), (.ext (.t 70) 1), none⟩,
      ⟨(some 13), (.mv (.t 74)), none⟩,
      ⟨(some 14), (.mv (.t 75)), none⟩])
    (.seq (.ops [⟨(some 77), (.mv (.t 5)), none⟩,
      ⟨(some 78), (.call (.k (.fn (.func 44) [] [])) [(.t 77)]), none⟩,
      ⟨(some 79), (.call (.k (.fn (.func 39) [] [])) [(.t 78)]), none⟩,
      ⟨(some 76), (.mv (.t 79)), none⟩,
      ⟨(some 80), (.ext (.t 76) 0), none⟩,
      ⟨(some 81), (.ext (.t 76) 1), none⟩,
      ⟨(some 15), (.mv (.t 80)), none⟩,
      ⟨(some 16), (.mv (.t 81)), none⟩])
    (.seq (.seq (.ops [⟨(some 82), (.mv (.t 8)), none⟩,
      ⟨(some 83), (.bin .neq (.t 82) (.k (I 0))), none⟩,
      ⟨(some 84), (.mv (.t 83)), none⟩,
      ⟨(some 85), (.mv (.t 10)), (some (84, false))⟩,
      ⟨(some 86), (.bin .neq (.t 85) (.k (I 0))), (some (84, false))⟩,
      ⟨(some 87), (.pick (.t 84) (.k (B true)) (.t 86)), none⟩,
      ⟨(some 88), (.mv (.t 87)), none⟩,
      ⟨(some 89), (.mv (.t 12)), (some (88, false))⟩,
      ⟨(some 90), (.bin .neq (.t 89) (.k (I 0))), (some (88, false))⟩,
      ⟨(some 91), (.pick (.t 88) (.k (B true)) (.t 90)), none⟩,
      ⟨(some 92), (.mv (.t 91)), none⟩,
      ⟨(some 93), (.mv (.t 14)), (some (92, false))⟩,
      ⟨(some 94), (.bin .neq (.t 93) (.k (I 0))), (some (92, false))⟩,
      ⟨(some 95), (.pick (.t 92) (.k (B true)) (.t 94)), none⟩,
      ⟨(some 96), (.mv (.t 95)), none⟩,
      ⟨(some 97), (.mv (.t 16)), (some (96, false))⟩,
      ⟨(some 98), (.bin .neq (.t 97) (.k (I 0))), (some (96, false))⟩,
      ⟨(some 99), (.pick (.t 96) (.k (B true)) (.t 98)), none⟩,
      ⟨(some 100), (.mv (.t 99)), none⟩,
      ⟨(some 101), (.mv (.t 7)), (some (100, false))⟩,
      ⟨(some 102), (.mv (.t 9)), (some (100, false))⟩,
      ⟨(some 103), (.eqb true (.t 101) (.t 102)), (some (100, false))⟩,
      ⟨(some 104), (.pick (.t 100) (.k (B true)) (.t 103)), none⟩,
      ⟨(some 105), (.mv (.t 104)), none⟩,
      ⟨(some 106), (.mv (.t 7)), (some (105, false))⟩,
      ⟨(some 107), (.mv (.t 11)), (some (105, false))⟩,
      ⟨(some 108), (.eqb true (.t 106) (.t 107)), (some (105, false))⟩,
      ⟨(some 109), (.pick (.t 105) (.k (B true)) (.t 108)), none⟩,
      ⟨(some 110), (.mv (.t 109)), none⟩,
      ⟨(some 111), (.mv (.t 13)), (some (110, false))⟩,
      ⟨(some 112), (.mv (.t 0)), (some (110, false))⟩,
      ⟨(some 113), (.call (.k (.fn (.func 32) [] [])) [(.t 111), (.t 112)]), (some (110, false))⟩,
      ⟨(some 114), (.un .not (.t 113)), (some (110, false))⟩,
      ⟨(some 115), (.pick (.t 110) (.k (B true)) (.t 114)), none⟩,
      ⟨(some 116), (.mv (.t 115)), none⟩,
      ⟨(some 117), (.mv (.t 15)), (some (116, false))⟩,
      ⟨(some 118), (.mv (.t 0)), (some (116, false))⟩,
      ⟨(some 119), (.call (.k (.fn (.func 32) [] [])) [(.t 117), (.t 118)]), (some (116, false))⟩,
      ⟨(some 120), (.un .not (.t 119)), (some (116, false))⟩,
      ⟨(some 121), (.pick (.t 116) (.k (B true)) (.t 120)), none⟩])
    (.cond (.t 121)
      (.seq (.ops [⟨(some 2), (.mv (.k (B false))), none⟩])
      .ret)
      .skip))
    (.seq (.ops [⟨(some 123), (.mv (.t 0)), none⟩,
      ⟨(some 124), (.call (.k (.fn (.func 16) [] [])) [(.t 123)]), none⟩,
      ⟨(some 125), (.call (.k (.fn (.func 42) [] [])) [(.t 124)]), none⟩,
      ⟨(some 122), (.mv (.t 125)), none⟩,
      ⟨(some 126), (.ext (.t 122) 0), none⟩,
      ⟨(some 127), (.ext (.t 122) 1), none⟩,
      ⟨(some 17), (.mv (.t 126)), none⟩,
      ⟨(some 8), (.mv (.t 127)), none⟩])
    (.seq (.ops [⟨(some 129), (.mv (.t 3)), none⟩,
      ⟨(some 130), (.call (.k (.fn (.func 42) [] [])) [(.t 129)]), none⟩,
      ⟨(some 128), (.mv (.t 130)), none⟩,
      ⟨(some 131), (.ext (.t 128) 0), none⟩,
      ⟨(some 132), (.ext (.t 128) 1), none⟩,
      ⟨(some 18), (.mv (.t 131)), none⟩,
      ⟨(some 10), (.mv (.t 132)), none⟩])
    (.seq (.seq (.ops [⟨(some 133), (.mv (.t 7)), none⟩,
      ⟨(some 134), (.un .not (.t 133)), none⟩])
    (.cond (.t 134)
      (.seq (.ops [⟨(some 135), (.mv (.t 8)), none⟩,
        ⟨(some 136), (.bin .eql (.t 135) (.k (I 5))), none⟩,
        ⟨(some 137), (.mv (.t 136)), none⟩,
        ⟨(some 138), (.mv (.t 10)), (some (137, true))⟩,
        ⟨(some 139), (.bin .eql (.t 138) (.k (I 5))), (some (137, true))⟩,
        ⟨(some 140), (.pick (.t 137) (.t 139) (.k (B false))), none⟩,
        ⟨(some 141), (.mv (.t 140)), none⟩,
        ⟨(some 142), (.call (.k (.fn (.func 18) [] [])) []), (some (141, true))⟩,
        ⟨(some 143), (.pick (.t 141) (.t 142) (.k (B false))), none⟩,
        ⟨(some 2), (.mv (.t 143)), none⟩])
      .ret)
      .skip))
    (.seq (.ops [⟨(some 144), (.mv (.t 8)), none⟩,
      ⟨(some 145), (.bin .eql (.t 144) (.k (I 0))), none⟩,
      ⟨(some 146), (.mv (.t 145)), none⟩,
      ⟨(some 147), (.mv (.t 10)), (some (146, true))⟩,
      ⟨(some 148), (.bin .eql (.t 147) (.k (I 0))), (some (146, true))⟩,
      ⟨(some 149), (.pick (.t 146) (.t 148) (.k (B false))), none⟩,
      ⟨(some 150), (.mv (.t 149)), none⟩,
      ⟨(some 151), (.mv (.t 17)), (some (150, true))⟩,
      ⟨(some 152), (.mv (.t 18)), (some (150, true))⟩,
      ⟨(some 153), (.bin .xor (.t 151) (.t 152)), (some (150, true))⟩,
      ⟨(some 154), (.mv (.t 0)), (some (150, true))⟩,
      ⟨(some 155), (.len (.t 154)), (some (150, true))⟩,
      ⟨(some 156), (.bin .sub (.t 155) (.k (I 1))), (some (150, true))⟩,
      ⟨(some 157), (.bin .shl (.k (I 1)) (.t 156)), (some (150, true))⟩,
      ⟨(some 158), (.bin .sub (.t 157) (.k (I 1))), (some (150, true))⟩,
      ⟨(some 159), (.bin .eql (.t 153) (.t 158)), (some (150, true))⟩,
      ⟨(some 160), (.pick (.t 150) (.t 159) (.k (B false))), none⟩,
      ⟨(some 161), (.mv (.t 160)), none⟩,
      ⟨(some 162), (.call (.k (.fn (.func 18) [] [])) []), (some (161, true))⟩,
      ⟨(some 163), (.pick (.t 161) (.t 162) (.k (B false))), none⟩,
      ⟨(some 2), (.mv (.t 163)), none⟩])
    .ret)))))))))))))) ks fr H ms := rfl
def r12 : List IRes := [(.tmp 2)]
theorem t12 : Try.f12.body.bind (trCode Try.prog Try.f12.ntmps) = some (strip c12) := by kernel_rfl
theorem q12 : trRes Try.prog Try.f12.results.toList = some r12 := by kernel_rfl
theorem fn12 : Try.prog.funcs[12]? = some Try.f12 := by kernel_rfl
theorem nn12 : (Try.f12.name == "runtime.NumGoroutine") = false := by kernel_rfl
theorem nt12 : Try.f12.ntmps = 164 := by kernel_rfl
def c11T1 : ICode :=
  (.keep [5] (.seq (.ops [⟨(some 91), (.mv (.t 5)), none⟩,
    ⟨(some 92), (.ixS 1 (.t 91) (.k (I 0))), none⟩,
    ⟨(some 93), (.load false 1 (.t 92)), none⟩,
    ⟨(some 94), (.bin .eql (.t 93) (.k (I 0))), none⟩,
    ⟨(some 95), (.mv (.t 94)), none⟩,
    ⟨(some 96), (.call (.k (.fn (.func 18) [] [])) []), (some (95, true))⟩,
    ⟨(some 97), (.pick (.t 95) (.t 96) (.k (B false))), none⟩,
    ⟨(some 2), (.mv (.t 97)), none⟩])
  .ret))
theorem w11T1 {x : Cx} {Q : QT} {ks : List Kont} {fr : Fr} {H : AHeap} {ms : List Nat} : W x Q c11T1 ks fr H ms = W x Q (.keep [5] (.seq (.ops [⟨(some 91), (.mv (.t 5)), none⟩,
      ⟨(some 92), (.ixS 1 (.t 91) (.k (I 0))), none⟩,
      ⟨(some 93), (.load false 1 (.t 92)), none⟩,
      ⟨(some 94), (.bin .eql (.t 93) (.k (I 0))), none⟩,
      ⟨(some 95), (.mv (.t 94)), none⟩,
      ⟨(some 96), (.call (.k (.fn (.func 18) [] [])) []), (some (95, true))⟩,
      ⟨(some 97), (.pick (.t 95) (.t 96) (.k (B false))), none⟩,
      ⟨(some 2), (.mv (.t 97)), none⟩])
    .ret)) ks fr H ms := rfl
/- live: [3, 5] -/
def c11L0 : ICode :=
  (.seq (.seq (.ops [⟨(some 36), (.mv (.t 5)), none⟩,
    ⟨(some 37), (.len (.t 36)), none⟩,
    ⟨(some 38), (.bin .gtr (.t 37) (.k (I 1))), none⟩])
  (.cond (.t 38)
    .skip
    (.exit 0)))
  (.block 1 (.seq (.ops [⟨(some 40), (.mv (.t 5)), none⟩,
    ⟨(some 41), (.call (.k (.fn (.func 44) [] [])) [(.t 40)]), none⟩,
    ⟨(some 42), (.call (.k (.fn (.func 43) [] [])) [(.t 41)]), none⟩,
    ⟨(some 39), (.mv (.t 42)), none⟩,
    ⟨(some 43), (.ext (.t 39) 0), none⟩,
    ⟨(some 44), (.ext (.t 39) 1), none⟩,
    ⟨(some 6), (.mv (.t 43)), none⟩,
    ⟨(some 7), (.mv (.t 44)), none⟩])
  (.seq (.ops [⟨(some 46), (.mv (.t 6)), none⟩,
    ⟨(some 47), (.call (.k (.fn (.func 44) [] [])) [(.t 46)]), none⟩,
    ⟨(some 48), (.call (.k (.fn (.func 15) [] [])) [(.t 47)]), none⟩,
    ⟨(some 45), (.mv (.t 48)), none⟩,
    ⟨(some 49), (.ext (.t 45) 0), none⟩,
    ⟨(some 50), (.ext (.t 45) 1), none⟩,
    ⟨(some 8), (.mv (.t 49)), none⟩,
    ⟨(some 9), (.mv (.t 50)), none⟩])
  (.seq (.ops [⟨(some 52), (.mv (.t 6)), none⟩,
    ⟨(some 53), (.call (.k (.fn (.func 44) [] [])) [(.t 52)]), none⟩,
    ⟨(some 54), (.call (.k (.fn (.func 42) [] [])) [(.t 53)]), none⟩,
    ⟨(some 51), (.mv (.t 54)), none⟩,
    ⟨(some 55), (.ext (.t 51) 0), none⟩,
    ⟨(some 56), (.ext (.t 51) 1), none⟩,
    ⟨(some 10), (.mv (.t 55)), none⟩,
    ⟨(some 11), (.mv (.t 56)), none⟩])
  (.seq (.seq (.ops [⟨(some 57), (.mv (.t 7)), none⟩,
    ⟨(some 58), (.bin .neq (.t 57) (.k (I 0))), none⟩,
    ⟨(some 59), (.mv (.t 58)), none⟩,
    ⟨(some 60), (.mv (.t 9)), (some (59, false))⟩,
    ⟨(some 61), (.bin .neq (.t 60) (.k (I 0))), (some (59, false))⟩,
    ⟨(some 62), (.pick (.t 59) (.k (B true)) (.t 61)), none⟩,
    ⟨(some 63), (.mv (.t 62)), none⟩,
    ⟨(some 64), (.mv (.t 11)), (some (63, false))⟩,
    ⟨(some 65), (.bin .neq (.t 64) (.k (I 0))), (some (63, false))⟩,
    ⟨(some 66), (.pick (.t 63) (.k (B true)) (.t 65)), none⟩,
    ⟨(some 67), (.mv (.t 66)), none⟩,
    ⟨(some 68), (.mv (.t 8)), (some (67, false))⟩,
    ⟨(some 69), (.un .not (.t 68)), (some (67, false))⟩,
    ⟨(some 70), (.pick (.t 67) (.k (B true)) (.t 69)), none⟩,
    ⟨(some 71), (.mv (.t 70)), none⟩,
    ⟨(some 72), (.mv (.t 6)), (some (71, false))⟩,
    ⟨(some 73), (.len (.t 72)), (some (71, false))⟩,
    ⟨(some 74), (.mv (.t 5)), (some (71, false))⟩,
    ⟨(some 75), (.len (.t 74)), (some (71, false))⟩,
    ⟨(some 76), (.bin .sub (.t 75) (.k (I 1))), (some (71, false))⟩,
    ⟨(some 77), (.bin .neq (.t 73) (.t 76)), (some (71, false))⟩,
    ⟨(some 78), (.pick (.t 71) (.k (B true)) (.t 77)), none⟩,
    ⟨(some 79), (.mv (.t 78)), none⟩,
    ⟨(some 80), (.mv (.t 10)), (some (79, false))⟩,
    ⟨(some 81), (.mv (.t 3)), (some (79, false))⟩,
    ⟨(some 82), (.mv (.t 6)), (some (79, false))⟩,
    ⟨(some 83), (.len (.t 82)), (some (79, false))⟩,
    ⟨(some 84), (.bin .sub (.t 83) (.k (I 1))), (some (79, false))⟩,
    ⟨(some 85), (.bin .shl (.k (I 1)) (.t 84)), (some (79, false))⟩,
    ⟨(some 86), (.bin .sub (.t 85) (.k (I 1))), (some (79, false))⟩,
    ⟨(some 87), (.bin .and (.t 81) (.t 86)), (some (79, false))⟩,
    ⟨(some 88), (.bin .neq (.t 80) (.t 87)), (some (79, false))⟩,
    ⟨(some 89), (.pick (.t 79) (.k (B true)) (.t 88)), none⟩])
  (.cond (.t 89)
    (.seq (.ops [⟨(some 2), (.mv (.k (B false))), none⟩])
    .ret)
    .skip))
  (.ops [⟨(some 90), (.mv (.t 6)), none⟩,
    ⟨(some 5), (.mv (.t 90)), none⟩])))))))
theorem w11L0 {x : Cx} {Q : QT} {ks : List Kont} {fr : Fr} {H : AHeap} {ms : List Nat} : W x Q c11L0 ks fr H ms = W x Q (.seq (.seq (.ops [⟨(some 36), (.mv (.t 5)), none⟩,
      ⟨(some 37), (.len (.t 36)), none⟩,
      ⟨(some 38), (.bin .gtr (.t 37) (.k (I 1))), none⟩])
    (.cond (.t 38)
      .skip
      (.exit 0)))
    (.block 1 (.seq (.ops [⟨(some 40), (.mv (.t 5)), none⟩,
      ⟨(some 41), (.call (.k (.fn (.func 44) [] [])) [(.t 40)]), none⟩,
      ⟨(some 42), (.call (.k (.fn (.func 43) [] [])) [(.t 41)]), none⟩,
      ⟨(some 39), (.mv (.t 42)), none⟩,
      ⟨(some 43), (.ext (.t 39) 0), none⟩,
      ⟨(some 44), (.ext (.t 39) 1), none⟩,
      ⟨(some 6), (.mv (.t 43)), none⟩,
      ⟨(some 7), (.mv (.t 44)), none⟩])
    (.seq (.ops [⟨(some 46), (.mv (.t 6)), none⟩,
      ⟨(some 47), (.call (.k (.fn (.func 44) [] [])) [(.t 46)]), none⟩,
      ⟨(some 48), (.call (.k (.fn (.func 15) [] [])) [(.t 47)]), none⟩,
      ⟨(some 45), (.mv (.t 48)), none⟩,
      ⟨(some 49), (.ext (.t 45) 0), none⟩,
      ⟨(some 50), (.ext (.t 45) 1), none⟩,
      ⟨(some 8), (.mv (.t 49)), none⟩,
      ⟨(some 9), (.mv (.t 50)), none⟩])
    (.seq (.ops [⟨(some 52), (.mv (.t 6)), none⟩,
      ⟨(some 53), (.call (.k (.fn (.func 44) [] [])) [(.t 52)]), none⟩,
      ⟨(some 54), (.call (.k (.fn (.func 42) [] [])) [(.t 53)]), none⟩,
      ⟨(some 51), (.mv (.t 54)), none⟩,
      ⟨(some 55), (.ext (.t 51) 0), none⟩,
      ⟨(some 56), (.ext (.t 51) 1), none⟩,
      ⟨(some 10), (.mv (.t 55)), none⟩,
      ⟨(some 11), (.mv (.t 56)), none⟩])
    (.seq (.seq (.ops [⟨(some 57), (.mv (.t 7)), none⟩,
      ⟨(some 58), (.bin .neq (.t 57) (.k (I 0))), none⟩,
      ⟨(some 59), (.mv (.t 58)), none⟩,
      ⟨(some 60), (.mv (.t 9)), (some (59, false))⟩,
      ⟨(some 61), (.bin .neq (.t 60) (.k (I 0))), (some (59, false))⟩,
      ⟨(some 62), (.pick (.t 59) (.k (B true)) (.t 61)), none⟩,
      ⟨(some 63), (.mv (.t 62)), none⟩,
      ⟨(some 64), (.mv (.t 11)), (some (63, false))⟩,
      ⟨(some 65), (.bin .neq (.t 64) (.k (I 0))), (some (63, false))⟩,
      ⟨(some 66), (.pick (.t 63) (.k (B true)) (.t 65)), none⟩,
      ⟨(some 67), (.mv (.t 66)), none⟩,
      ⟨(some 68), (.mv (.t 8)), (some (67, false))⟩,
      ⟨(some 69), (.un .not (.t 68)), (some (67, false))⟩,
      ⟨(some 70), (.pick (.t 67) (.k (B true)) (.t 69)), none⟩,
      ⟨(some 71), (.mv (.t 70)), none⟩,
      ⟨(some 72), (.mv (.t 6)), (some (71, false))⟩,
      ⟨(some 73), (.len (.t 72)), (some (71, false))⟩,
      ⟨(some 74), (.mv (.t 5)), (some (71, false))⟩,
      ⟨(some 75), (.len (.t 74)), (some (71, false))⟩,
      ⟨(some 76), (.bin .sub (.t 75) (.k (I 1))), (some (71, false))⟩,
      ⟨(some 77), (.bin .neq (.t 73) (.t 76)), (some (71, false))⟩,
      ⟨(some 78), (.pick (.t 71) (.k (B true)) (.t 77)), none⟩,
      ⟨(some 79), (.mv (.t 78)), none⟩,
      ⟨(some 80), (.mv (.t 10)), (some (79, false))⟩,
      ⟨(some 81), (.mv (.t 3)), (some (79, false))⟩,
      ⟨(some 82), (.mv (.t 6)), (some (79, false))⟩,
      ⟨(some 83), (.len (.t 82)), (some (79, false))⟩,
      ⟨(some 84), (.bin .sub (.t 83) (.k (I 1))), (some (79, false))⟩,
      ⟨(some 85), (.bin .shl (.k (I 1)) (.t 84)), (some (79, false))⟩,
      ⟨(some 86), (.bin .sub (.t 85) (.k (I 1))), (some (79, false))⟩,
      ⟨(some 87), (.bin .and (.t 81) (.t 86)), (some (79, false))⟩,
      ⟨(some 88), (.bin .neq (.t 80) (.t 87)), (some (79, false))⟩,
      ⟨(some 89), (.pick (.t 79) (.k (B true)) (.t 88)), none⟩])
    (.cond (.t 89)
      (.seq (.ops [⟨(some 2), (.mv (.k (B false))), none⟩])
      .ret)
      .skip))
    (.ops [⟨(some 90), (.mv (.t 6)), none⟩,
      ⟨(some 5), (.mv (.t 90)), none⟩]))))))) ks fr H ms := rfl
def c11 : ICode :=
  (.seq (.ops [⟨(some 2), (.mv (.k (B false))), none⟩])
  (.seq (.ops [⟨(some 13), (.mv (.t 0)), none⟩,
    ⟨(some 14), (.call (.k (.fn (.func 16) [] [])) [(.t 13)]), none⟩,
    ⟨(some 15), (.call (.k (.fn (.func 42) [] [])) [(.t 14)]), none⟩,
    ⟨(some 12), (.mv (.t 15)), none⟩,
    ⟨(some 16), (.ext (.t 12) 0), none⟩,
    ⟨(some 17), (.ext (.t 12) 1), none⟩,
    ⟨(some 3), (.mv (.t 16)), none⟩,
    ⟨(some 4), (.mv (.t 17)), none⟩])
  (.seq (.seq (.ops [⟨(some 18), (.mv (.t 4)), none⟩,
    ⟨(some 19), (.bin .neq (.t 18) (.k (I 0))), none⟩,
    ⟨(some 20), (.mv (.t 19)), none⟩,
    ⟨(some 21), (.mv (.t 0)), (some (20, false))⟩,
    ⟨(some 22), (.call (.k (.fn (.func 17) [] [])) [(.t 21)]), (some (20, false))⟩,
    ⟨(some 23), (.un .not (.t 22)), (some (20, false))⟩,
    ⟨(some 24), (.pick (.t 20) (.k (B true)) (.t 23)), none⟩])
  (.cond (.t 24)
    (.seq (.ops [⟨(some 25), (.mv (.t 4)), none⟩,
      ⟨(some 26), (.bin .eql (.t 25) (.k (I 2))), none⟩,
      ⟨(some 27), (.mv (.t 26)), none⟩,
      ⟨(some 28), (.mv (.t 4)), (some (27, false))⟩,
      ⟨(some 29), (.bin .eql (.t 28) (.k (I 5))), (some (27, false))⟩,
      ⟨(some 30), (.pick (.t 27) (.k (B true)) (.t 29)), none⟩,
      ⟨(some 31), (.mv (.t 30)), none⟩,
      ⟨(some 32), (.call (.k (.fn (.func 18) [] [])) []), (some (31, true))⟩,
      ⟨(some 33), (.pick (.t 31) (.t 32) (.k (B false))), none⟩,
      ⟨(some 2), (.mv (.t 33)), none⟩])
    .ret)
    .skip))
  (.seq (.ops [⟨(some 34), (.mv (.t 0)), none⟩,
    ⟨(some 35), (.call (.k (.fn (.func 16) [] [])) [(.t 34)]), none⟩,
    ⟨(some 5), (.mv (.t 35)), none⟩])
  (.seq (.block 0 (.loop c11L0))
  c11T1)))))
theorem w11 {x : Cx} {Q : QT} {ks : List Kont} {fr : Fr} {H : AHeap} {ms : List Nat} : W x Q c11 ks fr H ms = W x Q (.seq (.ops [⟨(some 2), (.mv (.k (B false))), none⟩])
    (.seq (.ops [⟨(some 13), (.mv (.t 0)), none⟩,
      ⟨(some 14), (.call (.k (.fn (.func 16) [] [])) [(.t 13)]), none⟩,
      ⟨(some 15), (.call (.k (.fn (.func 42) [] [])) [(.t 14)]), none⟩,
      ⟨(some 12), (.mv (.t 15)), none⟩,
      ⟨(some 16), (.ext (.t 12) 0), none⟩,
      ⟨(some 17), (.ext (.t 12) 1), none⟩,
      ⟨(some 3), (.mv (.t 16)), none⟩,
      ⟨(some 4), (.mv (.t 17)), none⟩])
    (.seq (.seq (.ops [⟨(some 18), (.mv (.t 4)), none⟩,
      ⟨(some 19), (.bin .neq (.t 18) (.k (I 0))), none⟩,
      ⟨(some 20), (.mv (.t 19)), none⟩,
      ⟨(some 21), (.mv (.t 0)), (some (20, false))⟩,
      ⟨(some 22), (.call (.k (.fn (.func 17) [] [])) [(.t 21)]), (some (20, false))⟩,
      ⟨(some 23), (.un .not (.t 22)), (some (20, false))⟩,
      ⟨(some 24), (.pick (.t 20) (.k (B true)) (.t 23)), none⟩])
    (.cond (.t 24)
      (.seq (.ops [⟨(some 25), (.mv (.t 4)), none⟩,
        ⟨(some 26), (.bin .eql (.t 25) (.k (I 2))), none⟩,
        ⟨(some 27), (.mv (.t 26)), none⟩,
        ⟨(some 28), (.mv (.t 4)), (some (27, false))⟩,
        ⟨(some 29), (.bin .eql (.t 28) (.k (I 5))), (some (27, false))⟩,
        ⟨(some 30), (.pick (.t 27) (.k (B true)) (.t 29)), none⟩,
        ⟨(some 31), (.mv (.t 30)), none⟩,
        ⟨(some 32), (.call (.k (.fn (.func 18) [] [])) []), (some (31, true))⟩,
        ⟨(some 33), (.pick (.t 31) (.t 32) (.k (B false))), none⟩,
        ⟨(some 2), (.mv (.t 33)), none⟩])
      .ret)
      .skip))
    (.seq (.ops [⟨(some 34), (.mv (.t 0)), none⟩,
      ⟨(some 35), (.call (.k (.fn (.func 16) [] [])) [(.t 34)]), none⟩,
      ⟨(some 5), (.mv (.t 35)), none⟩])
    (.seq (.block 0 (.loop c11L0))
    c11T1))))) ks fr H ms := rfl
def r11 : List IRes := [(.tmp 2)]
theorem t11 : Try.f11.body.bind (trCode Try.prog Try.f11.ntmps) = some (strip c11) := by kernel_rfl
theorem q11 : trRes Try.prog Try.f11.results.toList = some r11 := by kernel_rfl
theorem fn11 : Try.prog.funcs[11]? = some Try.f11 := by kernel_rfl
theorem nn11 : (Try.f11.name == "runtime.NumGoroutine") = false := by kernel_rfl
theorem nt11 : Try.f11.ntmps = 98 := by kernel_rfl
end Go.Proofs.Ythdjloegibenoaa
