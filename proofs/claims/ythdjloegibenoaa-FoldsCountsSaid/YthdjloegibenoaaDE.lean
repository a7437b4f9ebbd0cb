/- The code of some functions of the program, cleaned: printed by a program of mine, checked here. -/
import Derived.Test.YthdjloegibenoaaProg
import Derived.Test.YthdjloegibenoaaAS
import Derived.KernelRfl
import Derived.Test.YthdjloegibenoaaDD
namespace Go.Proofs.Ythdjloegibenoaa
open Go.Abs AVal
def c9 : ICode :=
  (.seq (.ops [⟨(some 4), (.mv (.k (B false))), none⟩])
  (.seq (.ops [⟨(some 10), (.mv (.t 0)), none⟩,
    ⟨(some 11), (.mv (.t 1)), none⟩,
    ⟨(some 12), (.call (.k (.fn (.func 16) [] [])) [(.t 11)]), none⟩,
    ⟨(some 13), (.call (.k (.fn (.func 22) [] [])) [(.t 10), (.t 12)]), none⟩,
    ⟨(some 9), (.mv (.t 13)), none⟩,
    ⟨(some 14), (.ext (.t 9) 0), none⟩,
    ⟨(some 15), (.ext (.t 9) 1), none⟩,
    ⟨(some 5), (.mv (.t 14)), none⟩,
    ⟨(some 6), (.mv (.t 15)), none⟩])
  (.seq (.ops [⟨(some 17), (.mv (.t 0)), none⟩,
    ⟨(some 18), (.call (.k (.fn (.func 27) [] [])) [(.t 17)]), none⟩,
    ⟨(some 16), (.mv (.t 18)), none⟩,
    ⟨(some 19), (.ext (.t 16) 0), none⟩,
    ⟨(some 20), (.ext (.t 16) 1), none⟩,
    ⟨(some 7), (.mv (.t 19)), none⟩,
    ⟨(some 8), (.mv (.t 20)), none⟩])
  (.seq (.seq (.ops [⟨(some 21), (.mv (.t 0)), none⟩,
    ⟨(some 22), (.bin .lss (.t 21) (.k (I 1))), none⟩,
    ⟨(some 23), (.mv (.t 22)), none⟩,
    ⟨(some 24), (.mv (.t 0)), (some (23, false))⟩,
    ⟨(some 25), (.bin .gtr (.t 24) (.k (I 3))), (some (23, false))⟩,
    ⟨(some 26), (.pick (.t 23) (.k (B true)) (.t 25)), none⟩])
  (.cond (.t 26)
    (.seq (.ops [⟨(some 27), (.mv (.t 7)), none⟩,
      ⟨(some 28), (.bin .neq (.t 27) (.k (I 0))), none⟩,
      ⟨(some 29), (.mv (.t 28)), none⟩,
      ⟨(some 30), (.mv (.t 8)), (some (29, false))⟩,
      ⟨(some 31), (.bin .neq (.t 30) (.k (I 2))), (some (29, false))⟩,
      ⟨(some 32), (.pick (.t 29) (.k (B true)) (.t 31)), none⟩])
    (.cond (.t 32)
      (.seq (.ops [⟨(some 4), (.mv (.k (B false))), none⟩])
      .ret)
      .skip))
    (.seq (.ops [⟨(some 33), (.mv (.t 7)), none⟩,
      ⟨(some 34), (.mv (.t 0)), none⟩,
      ⟨(some 35), (.call (.k (.fn (.func 36) [] [])) [(.t 34)]), none⟩,
      ⟨(some 36), (.bin .neq (.t 33) (.t 35)), none⟩,
      ⟨(some 37), (.mv (.t 36)), none⟩,
      ⟨(some 38), (.mv (.t 8)), (some (37, false))⟩,
      ⟨(some 39), (.bin .neq (.t 38) (.k (I 0))), (some (37, false))⟩,
      ⟨(some 40), (.pick (.t 37) (.k (B true)) (.t 39)), none⟩])
    (.cond (.t 40)
      (.seq (.ops [⟨(some 4), (.mv (.k (B false))), none⟩])
      .ret)
      .skip))))
  (.seq (.seq (.ops [⟨(some 41), (.mv (.t 0)), none⟩,
    ⟨(some 42), (.bin .lss (.t 41) (.k (I 1))), none⟩,
    ⟨(some 43), (.mv (.t 42)), none⟩,
    ⟨(some 44), (.mv (.t 0)), (some (43, false))⟩,
    ⟨(some 45), (.bin .gtr (.t 44) (.k (I 4))), (some (43, false))⟩,
    ⟨(some 46), (.pick (.t 43) (.k (B true)) (.t 45)), none⟩,
    ⟨(some 47), (.mv (.t 46)), none⟩,
    ⟨(some 48), (.mv (.t 1)), (some (47, false))⟩,
    ⟨(some 49), (.len (.t 48)), (some (47, false))⟩,
    ⟨(some 50), (.mv (.t 0)), (some (47, false))⟩,
    ⟨(some 51), (.bin .mul (.k (I 2)) (.t 50)), (some (47, false))⟩,
    ⟨(some 52), (.bin .neq (.t 49) (.t 51)), (some (47, false))⟩,
    ⟨(some 53), (.pick (.t 47) (.k (B true)) (.t 52)), none⟩,
    ⟨(some 54), (.mv (.t 53)), none⟩,
    ⟨(some 55), (.mv (.t 1)), (some (54, false))⟩,
    ⟨(some 56), (.call (.k (.fn (.func 23) [] [])) [(.t 55), (.k (I 8))]), (some (54, false))⟩,
    ⟨(some 57), (.un .not (.t 56)), (some (54, false))⟩,
    ⟨(some 58), (.pick (.t 54) (.k (B true)) (.t 57)), none⟩])
  (.cond (.t 58)
    (.seq (.ops [⟨(some 59), (.mv (.t 5)), none⟩,
      ⟨(some 60), (.un .not (.t 59)), none⟩,
      ⟨(some 61), (.mv (.t 60)), none⟩,
      ⟨(some 62), (.mv (.t 6)), (some (61, true))⟩,
      ⟨(some 63), (.bin .eql (.t 62) (.k (I 2))), (some (61, true))⟩,
      ⟨(some 64), (.pick (.t 61) (.t 63) (.k (B false))), none⟩,
      ⟨(some 65), (.mv (.t 64)), none⟩,
      ⟨(some 66), (.call (.k (.fn (.func 18) [] [])) []), (some (65, true))⟩,
      ⟨(some 67), (.pick (.t 65) (.t 66) (.k (B false))), none⟩,
      ⟨(some 4), (.mv (.t 67)), none⟩])
    .ret)
    .skip))
  (.seq (.ops [⟨(some 68), (.mv (.t 5)), none⟩,
    ⟨(some 69), (.mv (.t 0)), none⟩,
    ⟨(some 70), (.mv (.t 1)), none⟩,
    ⟨(some 71), (.call (.k (.fn (.func 37) [] [])) [(.t 69), (.t 70)]), none⟩,
    ⟨(some 72), (.eqb false (.t 68) (.t 71)), none⟩,
    ⟨(some 73), (.mv (.t 72)), none⟩,
    ⟨(some 74), (.mv (.t 6)), (some (73, true))⟩,
    ⟨(some 75), (.bin .eql (.t 74) (.k (I 0))), (some (73, true))⟩,
    ⟨(some 76), (.pick (.t 73) (.t 75) (.k (B false))), none⟩,
    ⟨(some 77), (.mv (.t 76)), none⟩,
    ⟨(some 78), (.call (.k (.fn (.func 18) [] [])) []), (some (77, true))⟩,
    ⟨(some 79), (.pick (.t 77) (.t 78) (.k (B false))), none⟩,
    ⟨(some 4), (.mv (.t 79)), none⟩])
  .ret))))))
theorem w9 {x : Cx} {Q : QT} {ks : List Kont} {fr : Fr} {H : AHeap} {ms : List Nat} : W x Q c9 ks fr H ms = W x Q (.seq (.ops [⟨(some 4), (.mv (.k (B false))), none⟩])
    (.seq (.ops [⟨(some 10), (.mv (.t 0)), none⟩,
      ⟨(some 11), (.mv (.t 1)), none⟩,
      ⟨(some 12), (.call (.k (.fn (.func 16) [] [])) [(.t 11)]), none⟩,
      ⟨(some 13), (.call (.k (.fn (.func 22) [] [])) [(.t 10), (.t 12)]), none⟩,
      ⟨(some 9), (.mv (.t 13)), none⟩,
      ⟨(some 14), (.ext (.t 9) 0), none⟩,
      ⟨(some 15), (.ext (.t 9) 1), none⟩,
      ⟨(some 5), (.mv (.t 14)), none⟩,
      ⟨(some 6), (.mv (.t 15)), none⟩])
    (.seq (.ops [⟨(some 17), (.mv (.t 0)), none⟩,
      ⟨(some 18), (.call (.k (.fn (.func 27) [] [])) [(.t 17)]), none⟩,
      ⟨(some 16), (.mv (.t 18)), none⟩,
      ⟨(some 19), (.ext (.t 16) 0), none⟩,
      ⟨(some 20), (.ext (.t 16) 1), none⟩,
      ⟨(some 7), (.mv (.t 19)), none⟩,
      ⟨(some 8), (.mv (.t 20)), none⟩])
    (.seq (.seq (.ops [⟨(some 21), (.mv (.t 0)), none⟩,
      ⟨(some 22), (.bin .lss (.t 21) (.k (I 1))), none⟩,
      ⟨(some 23), (.mv (.t 22)), none⟩,
      ⟨(some 24), (.mv (.t 0)), (some (23, false))⟩,
      ⟨(some 25), (.bin .gtr (.t 24) (.k (I 3))), (some (23, false))⟩,
      ⟨(some 26), (.pick (.t 23) (.k (B true)) (.t 25)), none⟩])
    (.cond (.t 26)
      (.seq (.ops [⟨(some 27), (.mv (.t 7)), none⟩,
        ⟨(some 28), (.bin .neq (.t 27) (.k (I 0))), none⟩,
        ⟨(some 29), (.mv (.t 28)), none⟩,
        ⟨(some 30), (.mv (.t 8)), (some (29, false))⟩,
        ⟨(some 31), (.bin .neq (.t 30) (.k (I 2))), (some (29, false))⟩,
        ⟨(some 32), (.pick (.t 29) (.k (B true)) (.t 31)), none⟩])
      (.cond (.t 32)
        (.seq (.ops [⟨(some 4), (.mv (.k (B false))), none⟩])
        .ret)
        .skip))
      (.seq (.ops [⟨(some 33), (.mv (.t 7)), none⟩,
        ⟨(some 34), (.mv (.t 0)), none⟩,
        ⟨(some 35), (.call (.k (.fn (.func 36) [] [])) [(.t 34)]), none⟩,
        ⟨(some 36), (.bin .neq (.t 33) (.t 35)), none⟩,
        ⟨(some 37), (.mv (.t 36)), none⟩,
        ⟨(some 38), (.mv (.t 8)), (some (37, false))⟩,
        ⟨(some 39), (.bin .neq (.t 38) (.k (I 0))), (some (37, false))⟩,
        ⟨(some 40), (.pick (.t 37) (.k (B true)) (.t 39)), none⟩])
      (.cond (.t 40)
        (.seq (.ops [⟨(some 4), (.mv (.k (B false))), none⟩])
        .ret)
        .skip))))
    (.seq (.seq (.ops [⟨(some 41), (.mv (.t 0)), none⟩,
      ⟨(some 42), (.bin .lss (.t 41) (.k (I 1))), none⟩,
      ⟨(some 43), (.mv (.t 42)), none⟩,
      ⟨(some 44), (.mv (.t 0)), (some (43, false))⟩,
      ⟨(some 45), (.bin .gtr (.t 44) (.k (I 4))), (some (43, false))⟩,
      ⟨(some 46), (.pick (.t 43) (.k (B true)) (.t 45)), none⟩,
      ⟨(some 47), (.mv (.t 46)), none⟩,
      ⟨(some 48), (.mv (.t 1)), (some (47, false))⟩,
      ⟨(some 49), (.len (.t 48)), (some (47, false))⟩,
      ⟨(some 50), (.mv (.t 0)), (some (47, false))⟩,
      ⟨(some 51), (.bin .mul (.k (I 2)) (.t 50)), (some (47, false))⟩,
      ⟨(some 52), (.bin .neq (.t 49) (.t 51)), (some (47, false))⟩,
      ⟨(some 53), (.pick (.t 47) (.k (B true)) (.t 52)), none⟩,
      ⟨(some 54), (.mv (.t 53)), none⟩,
      ⟨(some 55), (.mv (.t 1)), (some (54, false))⟩,
      ⟨(some 56), (.call (.k (.fn (.func 23) [] [])) [(.t 55), (.k (I 8))]), (some (54, false))⟩,
      ⟨(some 57), (.un .not (.t 56)), (some (54, false))⟩,
      ⟨(some 58), (.pick (.t 54) (.k (B true)) (.t 57)), none⟩])
    (.cond (.t 58)
      (.seq (.ops [⟨(some 59), (.mv (.t 5)), none⟩,
        ⟨(some 60), (.un .not (.t 59)), none⟩,
        ⟨(some 61), (.mv (.t 60)), none⟩,
        ⟨(some 62), (.mv (.t 6)), (some (61, true))⟩,
        ⟨(some 63), (.bin .eql (.t 62) (.k (I 2))), (some (61, true))⟩,
        ⟨(some 64), (.pick (.t 61) (.t 63) (.k (B false))), none⟩,
        ⟨(some 65), (.mv (.t 64)), none⟩,
        ⟨(some 66), (.call (.k (.fn (.func 18) [] [])) []), (some (65, true))⟩,
        ⟨(some 67), (.pick (.t 65) (.t 66) (.k (B false))), none⟩,
        ⟨(some 4), (.mv (.t 67)), none⟩])
      .ret)
      .skip))
    (.seq (.ops [⟨(some 68), (.mv (.t 5)), none⟩,
      ⟨(some 69), (.mv (.t 0)), none⟩,
      ⟨(some 70), (.mv (.t 1)), none⟩,
      ⟨(some 71), (.call (.k (.fn (.func 37) [] [])) [(.t 69), (.t 70)]), none⟩,
      ⟨(some 72), (.eqb false (.t 68) (.t 71)), none⟩,
      ⟨(some 73), (.mv (.t 72)), none⟩,
      ⟨(some 74), (.mv (.t 6)), (some (73, true))⟩,
      ⟨(some 75), (.bin .eql (.t 74) (.k (I 0))), (some (73, true))⟩,
      ⟨(some 76), (.pick (.t 73) (.t 75) (.k (B false))), none⟩,
      ⟨(some 77), (.mv (.t 76)), none⟩,
      ⟨(some 78), (.call (.k (.fn (.func 18) [] [])) []), (some (77, true))⟩,
      ⟨(some 79), (.pick (.t 77) (.t 78) (.k (B false))), none⟩,
      ⟨(some 4), (.mv (.t 79)), none⟩])
    .ret)))))) ks fr H ms := rfl
def r9 : List IRes := [(.tmp 4)]
theorem t9 : Try.f9.body.bind (trCode Try.prog Try.f9.ntmps) = some (strip c9) := by kernel_rfl
theorem q9 : trRes Try.prog Try.f9.results.toList = some r9 := by kernel_rfl
theorem fn9 : Try.prog.funcs[9]? = some Try.f9 := by kernel_rfl
theorem nn9 : (Try.f9.name == "runtime.NumGoroutine") = false := by kernel_rfl
theorem nt9 : Try.f9.ntmps = 80 := by kernel_rfl
def c22 : ICode :=
  (.seq (.ops [⟨(some 4), (.mv (.k (B false))), none⟩,
    ⟨(some 5), (.mv (.k (I 0))), none⟩])
  (.seq (.seq (.ops [⟨(some 6), (.mv (.t 0)), none⟩,
    ⟨(some 7), (.bin .lss (.t 6) (.k (I 1))), none⟩,
    ⟨(some 8), (.mv (.t 7)), none⟩,
    ⟨(some 9), (.mv (.t 0)), (some (8, false))⟩,
    ⟨(some 10), (.bin .gtr (.t 9) (.k (I 4))), (some (8, false))⟩,
    ⟨(some 11), (.pick (.t 8) (.k (B true)) (.t 10)), none⟩,
    ⟨(some 12), (.mv (.t 11)), none⟩,
    ⟨(some 13), (.mv (.t 1)), (some (12, false))⟩,
    ⟨(some 14), (.mv (.t 0)), (some (12, false))⟩,
    ⟨(some 15), (.bin .mul (.k (I 2)) (.t 14)), (some (12, false))⟩,
    ⟨(some 16), (.call (.k (.fn (.func 55) [] [])) [(.t 13), (.t 15)]), (some (12, false))⟩,
    ⟨(some 17), (.un .not (.t 16)), (some (12, false))⟩,
    ⟨(some 18), (.pick (.t 12) (.k (B true)) (.t 17)), none⟩])
  (.cond (.t 18)
    (.seq (.ops [⟨(some 4), (.mv (.k (B false))), none⟩,
      ⟨(some 5), (.mv (.k (I 2))), none⟩])
    .ret)
    .skip))
  (.seq (.ops [⟨(some 19), (.mv (.t 1)), none⟩,
    ⟨(some 20), (.mv (.t 0)), none⟩,
    ⟨(some 21), (.call (.k (.fn (.func 56) [] [])) [(.t 20)]), none⟩,
    ⟨(some 22), (.call (.k (.fn (.func 49) [] [])) [(.t 19), (.t 21)]), none⟩,
    ⟨(some 4), (.mv (.t 22)), none⟩,
    ⟨(some 5), (.mv (.k (I 0))), none⟩])
  .ret)))
theorem w22 {x : Cx} {Q : QT} {ks : List Kont} {fr : Fr} {H : AHeap} {ms : List Nat} : W x Q c22 ks fr H ms = W x Q (.seq (.ops [⟨(some 4), (.mv (.k (B false))), none⟩,
      ⟨(some 5), (.mv (.k (I 0))), none⟩])
    (.seq (.seq (.ops [⟨(some 6), (.mv (.t 0)), none⟩,
      ⟨(some 7), (.bin .lss (.t 6) (.k (I 1))), none⟩,
      ⟨(some 8), (.mv (.t 7)), none⟩,
      ⟨(some 9), (.mv (.t 0)), (some (8, false))⟩,
      ⟨(some 10), (.bin .gtr (.t 9) (.k (I 4))), (some (8, false))⟩,
      ⟨(some 11), (.pick (.t 8) (.k (B true)) (.t 10)), none⟩,
      ⟨(some 12), (.mv (.t 11)), none⟩,
      ⟨(some 13), (.mv (.t 1)), (some (12, false))⟩,
      ⟨(some 14), (.mv (.t 0)), (some (12, false))⟩,
      ⟨(some 15), (.bin .mul (.k (I 2)) (.t 14)), (some (12, false))⟩,
      ⟨(some 16), (.call (.k (.fn (.func 55) [] [])) [(.t 13), (.t 15)]), (some (12, false))⟩,
      ⟨(some 17), (.un .not (.t 16)), (some (12, false))⟩,
      ⟨(some 18), (.pick (.t 12) (.k (B true)) (.t 17)), none⟩])
    (.cond (.t 18)
      (.seq (.ops [⟨(some 4), (.mv (.k (B false))), none⟩,
        ⟨(some 5), (.mv (.k (I 2))), none⟩])
      .ret)
      .skip))
    (.seq (.ops [⟨(some 19), (.mv (.t 1)), none⟩,
      ⟨(some 20), (.mv (.t 0)), none⟩,
      ⟨(some 21), (.call (.k (.fn (.func 56) [] [])) [(.t 20)]), none⟩,
      ⟨(some 22), (.call (.k (.fn (.func 49) [] [])) [(.t 19), (.t 21)]), none⟩,
      ⟨(some 4), (.mv (.t 22)), none⟩,
      ⟨(some 5), (.mv (.k (I 0))), none⟩])
    .ret))) ks fr H ms := rfl
def r22 : List IRes := [(.tmp 4), (.tmp 5)]
theorem t22 : Try.f22.body.bind (trCode Try.prog Try.f22.ntmps) = some (strip c22) := by kernel_rfl
theorem q22 : trRes Try.prog Try.f22.results.toList = some r22 := by kernel_rfl
theorem fn22 : Try.prog.funcs[22]? = some Try.f22 := by kernel_rfl
theorem nn22 : (Try.f22.name == "runtime.NumGoroutine") = false := by kernel_rfl
theorem nt22 : Try.f22.ntmps = 23 := by kernel_rfl
def c56T3 : ICode :=
  (.keep [3] (.seq (.ops [⟨(some 44), (.mv (.t 3)), none⟩,
    ⟨(some 2), (.mv (.t 44)), none⟩])
  .ret))
theorem w56T3 {x : Cx} {Q : QT} {ks : List Kont} {fr : Fr} {H : AHeap} {ms : List Nat} : W x Q c56T3 ks fr H ms = W x Q (.keep [3] (.seq (.ops [⟨(some 44), (.mv (.t 3)), none⟩,
      ⟨(some 2), (.mv (.t 44)), none⟩])
    .ret)) ks fr H ms := rfl
/- live: [0, 3, 31, 32] -/
def c56L2 : ICode :=
  (.seq (.ops [⟨(some 33), (.bin .lss (.t 32) (.t 31)), none⟩])
  (.seq (.cond (.t 33)
    .skip
    (.exit 2))
  (.seq (.block 3 (.seq (.ops [⟨(some 34), (.mv (.t 32)), none⟩,
    ⟨(some 6), (.mv (.t 34)), none⟩])
  (.ops [⟨(some 35), (.mv (.t 3)), none⟩,
    ⟨(some 36), (.mv (.t 6)), none⟩,
    ⟨(some 37), (.mv (.t 0)), none⟩,
    ⟨(some 38), (.mv (.t 6)), none⟩,
    ⟨(some 39), (.bin .add (.t 37) (.t 38)), none⟩,
    ⟨(some 40), (.build [(I 0), (I 0), (I 0)] [(0, 1, (.t 36)), (1, 1, (.t 39)), (2, 1, (.k (I 2)))]), none⟩,
    ⟨(some 41), (.bslice 3 1 [(I 0), (I 0), (I 0)] [(0, 3, (.t 40))]), none⟩,
    ⟨(some 42), (.append 3 24 (.t 35) (.t 41)), none⟩,
    ⟨(some 3), (.mv (.t 42)), none⟩])))
  (.ops [⟨(some 43), (.bin .add (.t 32) (.k (I 1))), none⟩,
    ⟨(some 32), (.mv (.t 43)), none⟩]))))
theorem w56L2 {x : Cx} {Q : QT} {ks : List Kont} {fr : Fr} {H : AHeap} {ms : List Nat} : W x Q c56L2 ks fr H ms = W x Q (.seq (.ops [⟨(some 33), (.bin .lss (.t 32) (.t 31)), none⟩])
    (.seq (.cond (.t 33)
      .skip
      (.exit 2))
    (.seq (.block 3 (.seq (.ops [⟨(some 34), (.mv (.t 32)), none⟩,
      ⟨(some 6), (.mv (.t 34)), none⟩])
    (.ops [⟨(some 35), (.mv (.t 3)), none⟩,
      ⟨(some 36), (.mv (.t 6)), none⟩,
      ⟨(some 37), (.mv (.t 0)), none⟩,
      ⟨(some 38), (.mv (.t 6)), none⟩,
      ⟨(some 39), (.bin .add (.t 37) (.t 38)), none⟩,
      ⟨(some 40), (.build [(I 0), (I 0), (I 0)] [(0, 1, (.t 36)), (1, 1, (.t 39)), (2, 1, (.k (I 2)))]), none⟩,
      ⟨(some 41), (.bslice 3 1 [(I 0), (I 0), (I 0)] [(0, 3, (.t 40))]), none⟩,
      ⟨(some 42), (.append 3 24 (.t 35) (.t 41)), none⟩,
      ⟨(some 3), (.mv (.t 42)), none⟩])))
    (.ops [⟨(some 43), (.bin .add (.t 32) (.k (I 1))), none⟩,
      ⟨(some 32), (.mv (.t 43)), none⟩])))) ks fr H ms := rfl
def c56T1 : ICode :=
  (.keep [0, 3] (.seq (.seq (.ops [⟨(some 31), (.mv (.t 0)), none⟩,
    ⟨(some 32), (.mv (.k (I 0))), none⟩])
  (.block 2 (.loop c56L2)))
  c56T3))
theorem w56T1 {x : Cx} {Q : QT} {ks : List Kont} {fr : Fr} {H : AHeap} {ms : List Nat} : W x Q c56T1 ks fr H ms = W x Q (.keep [0, 3] (.seq (.seq (.ops [⟨(some 31), (.mv (.t 0)), none⟩,
      ⟨(some 32), (.mv (.k (I 0))), none⟩])
    (.block 2 (.loop c56L2)))
    c56T3)) ks fr H ms := rfl
/- live: [0, 3, 10, 11, 12] -/
def c56L0 : ICode :=
  (.seq (.ops [⟨(some 13), (.bin .lss (.t 12) (.t 11)), none⟩])
  (.seq (.cond (.t 13)
    .skip
    (.exit 0))
  (.seq (.block 1 (.seq (.ops [⟨(some 14), (.ixS 3 (.t 10) (.t 12)), none⟩,
    ⟨(some 15), (.load true 3 (.t 14)), none⟩,
    ⟨(some 5), (.alloc [(I 0), (I 0), (I 0)]), none⟩,
    ⟨none, (.store 3 (.t 5) (.t 15)), none⟩])
  (.ops [⟨(some 16), (.mv (.t 3)), none⟩,
    ⟨(some 17), (.mv (.t 0)), none⟩,
    ⟨(some 18), (.fldA 0 (.t 5)), none⟩,
    ⟨(some 19), (.load false 1 (.t 18)), none⟩,
    ⟨(some 20), (.bin .add (.t 17) (.t 19)), none⟩,
    ⟨(some 21), (.mv (.t 0)), none⟩,
    ⟨(some 22), (.fldA 1 (.t 5)), none⟩,
    ⟨(some 23), (.load false 1 (.t 22)), none⟩,
    ⟨(some 24), (.bin .add (.t 21) (.t 23)), none⟩,
    ⟨(some 25), (.fldA 2 (.t 5)), none⟩,
    ⟨(some 26), (.load false 1 (.t 25)), none⟩,
    ⟨(some 27), (.build [(I 0), (I 0), (I 0)] [(0, 1, (.t 20)), (1, 1, (.t 24)), (2, 1, (.t 26))]), none⟩,
    ⟨(some 28), (.bslice 3 1 [(I 0), (I 0), (I 0)] [(0, 3, (.t 27))]), none⟩,
    ⟨(some 29), (.append 3 24 (.t 16) (.t 28)), none⟩,
    ⟨(some 3), (.mv (.t 29)), none⟩])))
  (.ops [⟨(some 30), (.bin .add (.t 12) (.k (I 1))), none⟩,
    ⟨(some 12), (.mv (.t 30)), none⟩]))))
theorem w56L0 {x : Cx} {Q : QT} {ks : List Kont} {fr : Fr} {H : AHeap} {ms : List Nat} : W x Q c56L0 ks fr H ms = W x Q (.seq (.ops [⟨(some 13), (.bin .lss (.t 12) (.t 11)), none⟩])
    (.seq (.cond (.t 13)
      .skip
      (.exit 0))
    (.seq (.block 1 (.seq (.ops [⟨(some 14), (.ixS 3 (.t 10) (.t 12)), none⟩,
      ⟨(some 15), (.load true 3 (.t 14)), none⟩,
      ⟨(some 5), (.alloc [(I 0), (I 0), (I 0)]), none⟩,
      ⟨none, (.store 3 (.t 5) (.t 15)), none⟩])
    (.ops [⟨(some 16), (.mv (.t 3)), none⟩,
      ⟨(some 17), (.mv (.t 0)), none⟩,
      ⟨(some 18), (.fldA 0 (.t 5)), none⟩,
      ⟨(some 19), (.load false 1 (.t 18)), none⟩,
      ⟨(some 20), (.bin .add (.t 17) (.t 19)), none⟩,
      ⟨(some 21), (.mv (.t 0)), none⟩,
      ⟨(some 22), (.fldA 1 (.t 5)), none⟩,
      ⟨(some 23), (.load false 1 (.t 22)), none⟩,
      ⟨(some 24), (.bin .add (.t 21) (.t 23)), none⟩,
      ⟨(some 25), (.fldA 2 (.t 5)), none⟩,
      ⟨(some 26), (.load false 1 (.t 25)), none⟩,
      ⟨(some 27), (.build [(I 0), (I 0), (I 0)] [(0, 1, (.t 20)), (1, 1, (.t 24)), (2, 1, (.t 26))]), none⟩,
      ⟨(some 28), (.bslice 3 1 [(I 0), (I 0), (I 0)] [(0, 3, (.t 27))]), none⟩,
      ⟨(some 29), (.append 3 24 (.t 16) (.t 28)), none⟩,
      ⟨(some 3), (.mv (.t 29)), none⟩])))
    (.ops [⟨(some 30), (.bin .add (.t 12) (.k (I 1))), none⟩,
      ⟨(some 12), (.mv (.t 30)), none⟩])))) ks fr H ms := rfl
def c56 : ICode :=
  (.seq (.ops [⟨(some 2), (.mv (.k nilSl)), none⟩])
  (.seq (.ops [⟨(some 7), (.mv (.t 0)), none⟩,
    ⟨(some 8), (.call (.k (.fn (.func 50) [] [])) [(.t 7)]), none⟩,
    ⟨(some 3), (.mv (.t 8)), none⟩])
  (.seq (.seq (.ops [⟨(some 9), (.mv (.t 0)), none⟩,
    ⟨(some 10), (.call (.k (.fn (.func 50) [] [])) [(.t 9)]), none⟩,
    ⟨(some 11), (.len (.t 10)), none⟩,
    ⟨(some 12), (.mv (.k (I 0))), none⟩])
  (.block 0 (.loop c56L0)))
  c56T1)))
theorem w56 {x : Cx} {Q : QT} {ks : List Kont} {fr : Fr} {H : AHeap} {ms : List Nat} : W x Q c56 ks fr H ms = W x Q (.seq (.ops [⟨(some 2), (.mv (.k nilSl)), none⟩])
    (.seq (.ops [⟨(some 7), (.mv (.t 0)), none⟩,
      ⟨(some 8), (.call (.k (.fn (.func 50) [] [])) [(.t 7)]), none⟩,
      ⟨(some 3), (.mv (.t 8)), none⟩])
    (.seq (.seq (.ops [⟨(some 9), (.mv (.t 0)), none⟩,
      ⟨(some 10), (.call (.k (.fn (.func 50) [] [])) [(.t 9)]), none⟩,
      ⟨(some 11), (.len (.t 10)), none⟩,
      ⟨(some 12), (.mv (.k (I 0))), none⟩])
    (.block 0 (.loop c56L0)))
    c56T1))) ks fr H ms := rfl
def r56 : List IRes := [(.tmp 2)]
theorem t56 : Try.f56.body.bind (trCode Try.prog Try.f56.ntmps) = some (strip c56) := by kernel_rfl
theorem q56 : trRes Try.prog Try.f56.results.toList = some r56 := by kernel_rfl
theorem fn56 : Try.prog.funcs[56]? = some Try.f56 := by kernel_rfl
theorem nn56 : (Try.f56.name == "runtime.NumGoroutine") = false := by kernel_rfl
theorem nt56 : Try.f56.ntmps = 45 := by kernel_rfl
def c27R0a : ICode :=
  (.ops [⟨(some 6), (.mv (.t 18)), none⟩])
theorem w27R0a {x : Cx} {Q : QT} {ks : List Kont} {fr : Fr} {H : AHeap} {ms : List Nat} : W x Q c27R0a ks fr H ms = W x Q (.ops [⟨(some 6), (.mv (.t 18)), none⟩]) ks fr H ms := rfl
theorem t27R0a : trCode Try.prog 25 (asOf Try.f27 0) = some (strip c27R0a) := by kernel_rfl
def c27R0b : ICode :=
  (.block 1 (.seq (.ops [⟨(some 19), (.mv (.t 6)), none⟩,
    ⟨(some 20), (.load false 1 (.t 4)), none⟩,
    ⟨(some 21), (.call (.k (.fn (.func 49) [] [])) [(.t 19), (.t 20)]), none⟩])
  (.cond (.t 21)
    (.ops [⟨(some 22), (.load false 1 (.t 5)), none⟩,
      ⟨(some 23), (.bin .add (.t 22) (.k (I 1))), none⟩,
      ⟨none, (.store 1 (.t 5) (.t 23)), none⟩])
    .skip)))
theorem w27R0b {x : Cx} {Q : QT} {ks : List Kont} {fr : Fr} {H : AHeap} {ms : List Nat} : W x Q c27R0b ks fr H ms = W x Q (.block 1 (.seq (.ops [⟨(some 19), (.mv (.t 6)), none⟩,
      ⟨(some 20), (.load false 1 (.t 4)), none⟩,
      ⟨(some 21), (.call (.k (.fn (.func 49) [] [])) [(.t 19), (.t 20)]), none⟩])
    (.cond (.t 21)
      (.ops [⟨(some 22), (.load false 1 (.t 5)), none⟩,
        ⟨(some 23), (.bin .add (.t 22) (.k (I 1))), none⟩,
        ⟨none, (.store 1 (.t 5) (.t 23)), none⟩])
      .skip))) ks fr H ms := rfl
theorem t27R0b : trCode Try.prog 25 (bdOf Try.f27 0) = some (strip c27R0b) := by kernel_rfl
def c27T0 : ICode :=
  (.seq (.ops [⟨(some 24), (.load false 1 (.t 5)), none⟩,
    ⟨(some 2), (.mv (.t 24)), none⟩,
    ⟨(some 3), (.mv (.k (I 0))), none⟩])
  .ret)
theorem w27T0 {x : Cx} {Q : QT} {ks : List Kont} {fr : Fr} {H : AHeap} {ms : List Nat} : W x Q c27T0 ks fr H ms = W x Q (.seq (.ops [⟨(some 24), (.load false 1 (.t 5)), none⟩,
      ⟨(some 2), (.mv (.t 24)), none⟩,
      ⟨(some 3), (.mv (.k (I 0))), none⟩])
    .ret) ks fr H ms := rfl
noncomputable def c27 : ICode :=
  (.seq (.ops [⟨(some 2), (.mv (.k (I 0))), none⟩,
    ⟨(some 3), (.mv (.k (I 0))), none⟩])
  (.seq (.seq (.ops [⟨(some 7), (.mv (.t 0)), none⟩,
    ⟨(some 8), (.bin .lss (.t 7) (.k (I 1))), none⟩,
    ⟨(some 9), (.mv (.t 8)), none⟩,
    ⟨(some 10), (.mv (.t 0)), (some (9, false))⟩,
    ⟨(some 11), (.bin .gtr (.t 10) (.k (I 3))), (some (9, false))⟩,
    ⟨(some 12), (.pick (.t 9) (.k (B true)) (.t 11)), none⟩])
  (.cond (.t 12)
    (.seq (.ops [⟨(some 2), (.mv (.k (I 0))), none⟩,
      ⟨(some 3), (.mv (.k (I 2))), none⟩])
    .ret)
    .skip))
  (.seq (.ops [⟨(some 13), (.mv (.t 0)), none⟩,
    ⟨(some 14), (.call (.k (.fn (.func 56) [] [])) [(.t 13)]), none⟩,
    ⟨(some 4), (.alloc [nilSl]), none⟩,
    ⟨none, (.store 1 (.t 4) (.t 14)), none⟩])
  (.seq (.ops [⟨(some 5), (.alloc [(I 0)]), none⟩,
    ⟨none, (.store 1 (.t 5) (.k (I 0))), none⟩])
  (.seq (.seq (.ops [⟨(some 15), (.mv (.t 0)), none⟩,
    ⟨(some 16), (.bin .mul (.k (I 2)) (.t 15)), none⟩,
    ⟨(some 17), (.call (.k (.fn (.func 64) [] [])) [(.t 16)]), none⟩])
  (.block 0 (.range (.t 17) [18] (asOf Try.f27 0) (bdOf Try.f27 0))))
  c27T0)))))
theorem w27 {x : Cx} {Q : QT} {ks : List Kont} {fr : Fr} {H : AHeap} {ms : List Nat} : W x Q c27 ks fr H ms = W x Q (.seq (.ops [⟨(some 2), (.mv (.k (I 0))), none⟩,
      ⟨(some 3), (.mv (.k (I 0))), none⟩])
    (.seq (.seq (.ops [⟨(some 7), (.mv (.t 0)), none⟩,
      ⟨(some 8), (.bin .lss (.t 7) (.k (I 1))), none⟩,
      ⟨(some 9), (.mv (.t 8)), none⟩,
      ⟨(some 10), (.mv (.t 0)), (some (9, false))⟩,
      ⟨(some 11), (.bin .gtr (.t 10) (.k (I 3))), (some (9, false))⟩,
      ⟨(some 12), (.pick (.t 9) (.k (B true)) (.t 11)), none⟩])
    (.cond (.t 12)
      (.seq (.ops [⟨(some 2), (.mv (.k (I 0))), none⟩,
        ⟨(some 3), (.mv (.k (I 2))), none⟩])
      .ret)
      .skip))
    (.seq (.ops [⟨(some 13), (.mv (.t 0)), none⟩,
      ⟨(some 14), (.call (.k (.fn (.func 56) [] [])) [(.t 13)]), none⟩,
      ⟨(some 4), (.alloc [nilSl]), none⟩,
      ⟨none, (.store 1 (.t 4) (.t 14)), none⟩])
    (.seq (.ops [⟨(some 5), (.alloc [(I 0)]), none⟩,
      ⟨none, (.store 1 (.t 5) (.k (I 0))), none⟩])
    (.seq (.seq (.ops [⟨(some 15), (.mv (.t 0)), none⟩,
      ⟨(some 16), (.bin .mul (.k (I 2)) (.t 15)), none⟩,
      ⟨(some 17), (.call (.k (.fn (.func 64) [] [])) [(.t 16)]), none⟩])
    (.block 0 (.range (.t 17) [18] (asOf Try.f27 0) (bdOf Try.f27 0))))
    c27T0))))) ks fr H ms := rfl
def r27 : List IRes := [(.tmp 2), (.tmp 3)]
theorem t27 : Try.f27.body.bind (trCode Try.prog Try.f27.ntmps) = some (strip c27) := by kernel_rfl
theorem q27 : trRes Try.prog Try.f27.results.toList = some r27 := by kernel_rfl
theorem fn27 : Try.prog.funcs[27]? = some Try.f27 := by kernel_rfl
theorem nn27 : (Try.f27.name == "runtime.NumGoroutine") = false := by kernel_rfl
theorem nt27 : Try.f27.ntmps = 25 := by kernel_rfl
def c36T1 : ICode :=
  (.keep [3] (.seq (.ops [⟨(some 20), (.mv (.t 3)), none⟩,
    ⟨(some 2), (.mv (.t 20)), none⟩])
  .ret))
theorem w36T1 {x : Cx} {Q : QT} {ks : List Kont} {fr : Fr} {H : AHeap} {ms : List Nat} : W x Q c36T1 ks fr H ms = W x Q (.keep [3] (.seq (.ops [⟨(some 20), (.mv (.t 3)), none⟩,
      ⟨(some 2), (.mv (.t 20)), none⟩])
    .ret)) ks fr H ms := rfl
/- live: [0, 3, 8, 9, 10] -/
def c36L0 : ICode :=
  (.seq (.ops [⟨(some 11), (.bin .lss (.t 10) (.t 9)), none⟩])
  (.seq (.cond (.t 11)
    .skip
    (.exit 0))
  (.seq (.block 1 (.seq (.ops [⟨(some 12), (.ixS 1 (.t 8) (.t 10)), none⟩,
    ⟨(some 13), (.load false 1 (.t 12)), none⟩,
    ⟨(some 5), (.mv (.t 13)), none⟩])
  (.seq (.ops [⟨(some 14), (.mv (.t 0)), none⟩,
    ⟨(some 15), (.mv (.t 5)), none⟩,
    ⟨(some 16), (.call (.k (.fn (.func 37) [] [])) [(.t 14), (.t 15)]), none⟩])
  (.cond (.t 16)
    (.ops [⟨(some 17), (.mv (.t 3)), none⟩,
      ⟨(some 18), (.bin .add (.t 17) (.k (I 1))), none⟩,
      ⟨(some 3), (.mv (.t 18)), none⟩])
    .skip))))
  (.ops [⟨(some 19), (.bin .add (.t 10) (.k (I 1))), none⟩,
    ⟨(some 10), (.mv (.t 19)), none⟩]))))
theorem w36L0 {x : Cx} {Q : QT} {ks : List Kont} {fr : Fr} {H : AHeap} {ms : List Nat} : W x Q c36L0 ks fr H ms = W x Q (.seq (.ops [⟨(some 11), (.bin .lss (.t 10) (.t 9)), none⟩])
    (.seq (.cond (.t 11)
      .skip
      (.exit 0))
    (.seq (.block 1 (.seq (.ops [⟨(some 12), (.ixS 1 (.t 8) (.t 10)), none⟩,
      ⟨(some 13), (.load false 1 (.t 12)), none⟩,
      ⟨(some 5), (.mv (.t 13)), none⟩])
    (.seq (.ops [⟨(some 14), (.mv (.t 0)), none⟩,
      ⟨(some 15), (.mv (.t 5)), none⟩,
      ⟨(some 16), (.call (.k (.fn (.func 37) [] [])) [(.t 14), (.t 15)]), none⟩])
    (.cond (.t 16)
      (.ops [⟨(some 17), (.mv (.t 3)), none⟩,
        ⟨(some 18), (.bin .add (.t 17) (.k (I 1))), none⟩,
        ⟨(some 3), (.mv (.t 18)), none⟩])
      .skip))))
    (.ops [⟨(some 19), (.bin .add (.t 10) (.k (I 1))), none⟩,
      ⟨(some 10), (.mv (.t 19)), none⟩])))) ks fr H ms := rfl
def c36 : ICode :=
  (.seq (.ops [⟨(some 2), (.mv (.k (I 0))), none⟩])
  (.seq (.ops [⟨(some 3), (.mv (.k (I 0))), none⟩])
  (.seq (.seq (.ops [⟨(some 6), (.mv (.t 0)), none⟩,
    ⟨(some 7), (.bin .mul (.k (I 2)) (.t 6)), none⟩,
    ⟨(some 8), (.call (.k (.fn (.func 66) [] [])) [(.t 7), (.k nilSl)]), none⟩,
    ⟨(some 9), (.len (.t 8)), none⟩,
    ⟨(some 10), (.mv (.k (I 0))), none⟩])
  (.block 0 (.loop c36L0)))
  c36T1)))
theorem w36 {x : Cx} {Q : QT} {ks : List Kont} {fr : Fr} {H : AHeap} {ms : List Nat} : W x Q c36 ks fr H ms = W x Q (.seq (.ops [⟨(some 2), (.mv (.k (I 0))), none⟩])
    (.seq (.ops [⟨(some 3), (.mv (.k (I 0))), none⟩])
    (.seq (.seq (.ops [⟨(some 6), (.mv (.t 0)), none⟩,
      ⟨(some 7), (.bin .mul (.k (I 2)) (.t 6)), none⟩,
      ⟨(some 8), (.call (.k (.fn (.func 66) [] [])) [(.t 7), (.k nilSl)]), none⟩,
      ⟨(some 9), (.len (.t 8)), none⟩,
      ⟨(some 10), (.mv (.k (I 0))), none⟩])
    (.block 0 (.loop c36L0)))
    c36T1))) ks fr H ms := rfl
def r36 : List IRes := [(.tmp 2)]
theorem t36 : Try.f36.body.bind (trCode Try.prog Try.f36.ntmps) = some (strip c36) := by kernel_rfl
theorem q36 : trRes Try.prog Try.f36.results.toList = some r36 := by kernel_rfl
theorem fn36 : Try.prog.funcs[36]? = some Try.f36 := by kernel_rfl
theorem nn36 : (Try.f36.name == "runtime.NumGoroutine") = false := by kernel_rfl
theorem nt36 : Try.f36.ntmps = 21 := by kernel_rfl
def c37T3 : ICode :=
  (.keep [1, 5] (.seq (.ops [⟨(some 49), (.mv (.t 1)), none⟩,
    ⟨(some 50), (.mv (.t 5)), none⟩,
    ⟨(some 51), (.call (.k (.fn (.func 53) [] [])) [(.t 49), (.t 50)]), none⟩,
    ⟨(some 48), (.mv (.t 51)), none⟩,
    ⟨(some 52), (.ext (.t 48) 0), none⟩,
    ⟨(some 53), (.ext (.t 48) 1), none⟩,
    ⟨(some 8), (.alloc [(I 0), (I 0)]), none⟩,
    ⟨none, (.store 2 (.t 8) (.t 52)), none⟩,
    ⟨(some 9), (.mv (.t 53)), none⟩])
  (.seq (.ops [⟨(some 54), (.mv (.t 9)), none⟩,
    ⟨(some 55), (.un .not (.t 54)), none⟩,
    ⟨(some 4), (.mv (.t 55)), none⟩])
  .ret)))
theorem w37T3 {x : Cx} {Q : QT} {ks : List Kont} {fr : Fr} {H : AHeap} {ms : List Nat} : W x Q c37T3 ks fr H ms = W x Q (.keep [1, 5] (.seq (.ops [⟨(some 49), (.mv (.t 1)), none⟩,
      ⟨(some 50), (.mv (.t 5)), none⟩,
      ⟨(some 51), (.call (.k (.fn (.func 53) [] [])) [(.t 49), (.t 50)]), none⟩,
      ⟨(some 48), (.mv (.t 51)), none⟩,
      ⟨(some 52), (.ext (.t 48) 0), none⟩,
      ⟨(some 53), (.ext (.t 48) 1), none⟩,
      ⟨(some 8), (.alloc [(I 0), (I 0)]), none⟩,
      ⟨none, (.store 2 (.t 8) (.t 52)), none⟩,
      ⟨(some 9), (.mv (.t 53)), none⟩])
    (.seq (.ops [⟨(some 54), (.mv (.t 9)), none⟩,
      ⟨(some 55), (.un .not (.t 54)), none⟩,
      ⟨(some 4), (.mv (.t 55)), none⟩])
    .ret))) ks fr H ms := rfl
/- live: [0, 1, 5, 35, 36] -/
def c37L2 : ICode :=
  (.seq (.ops [⟨(some 37), (.bin .lss (.t 36) (.t 35)), none⟩])
  (.seq (.cond (.t 37)
    .skip
    (.exit 2))
  (.seq (.block 3 (.seq (.ops [⟨(some 38), (.mv (.t 36)), none⟩,
    ⟨(some 7), (.mv (.t 38)), none⟩])
  (.ops [⟨(some 39), (.mv (.t 5)), none⟩,
    ⟨(some 40), (.mv (.t 7)), none⟩,
    ⟨(some 41), (.mv (.t 0)), none⟩,
    ⟨(some 42), (.mv (.t 7)), none⟩,
    ⟨(some 43), (.bin .add (.t 41) (.t 42)), none⟩,
    ⟨(some 44), (.build [(I 0), (I 0), (I 0)] [(0, 1, (.t 40)), (1, 1, (.t 43)), (2, 1, (.k (I 2)))]), none⟩,
    ⟨(some 45), (.bslice 3 1 [(I 0), (I 0), (I 0)] [(0, 3, (.t 44))]), none⟩,
    ⟨(some 46), (.append 3 24 (.t 39) (.t 45)), none⟩,
    ⟨(some 5), (.mv (.t 46)), none⟩])))
  (.ops [⟨(some 47), (.bin .add (.t 36) (.k (I 1))), none⟩,
    ⟨(some 36), (.mv (.t 47)), none⟩]))))
theorem w37L2 {x : Cx} {Q : QT} {ks : List Kont} {fr : Fr} {H : AHeap} {ms : List Nat} : W x Q c37L2 ks fr H ms = W x Q (.seq (.ops [⟨(some 37), (.bin .lss (.t 36) (.t 35)), none⟩])
    (.seq (.cond (.t 37)
      .skip
      (.exit 2))
    (.seq (.block 3 (.seq (.ops [⟨(some 38), (.mv (.t 36)), none⟩,
      ⟨(some 7), (.mv (.t 38)), none⟩])
    (.ops [⟨(some 39), (.mv (.t 5)), none⟩,
      ⟨(some 40), (.mv (.t 7)), none⟩,
      ⟨(some 41), (.mv (.t 0)), none⟩,
      ⟨(some 42), (.mv (.t 7)), none⟩,
      ⟨(some 43), (.bin .add (.t 41) (.t 42)), none⟩,
      ⟨(some 44), (.build [(I 0), (I 0), (I 0)] [(0, 1, (.t 40)), (1, 1, (.t 43)), (2, 1, (.k (I 2)))]), none⟩,
      ⟨(some 45), (.bslice 3 1 [(I 0), (I 0), (I 0)] [(0, 3, (.t 44))]), none⟩,
      ⟨(some 46), (.append 3 24 (.t 39) (.t 45)), none⟩,
      ⟨(some 5), (.mv (.t 46)), none⟩])))
    (.ops [⟨(some 47), (.bin .add (.t 36) (.k (I 1))), none⟩,
      ⟨(some 36), (.mv (.t 47)), none⟩])))) ks fr H ms := rfl
def c37T1 : ICode :=
  (.keep [0, 1, 5] (.seq (.seq (.ops [⟨(some 35), (.mv (.t 0)), none⟩,
    ⟨(some 36), (.mv (.k (I 0))), none⟩])
  (.block 2 (.loop c37L2)))
  c37T3))
theorem w37T1 {x : Cx} {Q : QT} {ks : List Kont} {fr : Fr} {H : AHeap} {ms : List Nat} : W x Q c37T1 ks fr H ms = W x Q (.keep [0, 1, 5] (.seq (.seq (.ops [⟨(some 35), (.mv (.t 0)), none⟩,
      ⟨(some 36), (.mv (.k (I 0))), none⟩])
    (.block 2 (.loop c37L2)))
    c37T3)) ks fr H ms := rfl
/- live: [0, 1, 5, 11, 12] -/
def c37L0 : ICode :=
  (.seq (.ops [⟨(some 13), (.bin .lss (.t 12) (.t 11)), none⟩])
  (.seq (.cond (.t 13)
    .skip
    (.exit 0))
  (.seq (.block 1 (.seq (.ops [⟨(some 14), (.mv (.t 12)), none⟩,
    ⟨(some 6), (.mv (.t 14)), none⟩])
  (.ops [⟨(some 15), (.mv (.t 5)), none⟩,
    ⟨(some 16), (.mv (.t 6)), none⟩,
    ⟨(some 17), (.mv (.t 6)), none⟩,
    ⟨(some 18), (.bin .add (.t 17) (.k (I 1))), none⟩,
    ⟨(some 19), (.mv (.t 6)), none⟩,
    ⟨(some 20), (.bin .rem (.t 19) (.k (I 2))), none⟩,
    ⟨(some 21), (.build [(I 0), (I 0), (I 0)] [(0, 1, (.t 16)), (1, 1, (.t 18)), (2, 1, (.t 20))]), none⟩,
    ⟨(some 22), (.mv (.t 0)), none⟩,
    ⟨(some 23), (.mv (.t 6)), none⟩,
    ⟨(some 24), (.bin .add (.t 22) (.t 23)), none⟩,
    ⟨(some 25), (.mv (.t 0)), none⟩,
    ⟨(some 26), (.mv (.t 6)), none⟩,
    ⟨(some 27), (.bin .add (.t 25) (.t 26)), none⟩,
    ⟨(some 28), (.bin .add (.t 27) (.k (I 1))), none⟩,
    ⟨(some 29), (.mv (.t 6)), none⟩,
    ⟨(some 30), (.bin .rem (.t 29) (.k (I 2))), none⟩,
    ⟨(some 31), (.build [(I 0), (I 0), (I 0)] [(0, 1, (.t 24)), (1, 1, (.t 28)), (2, 1, (.t 30))]), none⟩,
    ⟨(some 32), (.bslice 3 2 [(I 0), (I 0), (I 0)] [(0, 3, (.t 21)), (3, 3, (.t 31))]), none⟩,
    ⟨(some 33), (.append 3 24 (.t 15) (.t 32)), none⟩,
    ⟨(some 5), (.mv (.t 33)), none⟩])))
  (.ops [⟨(some 34), (.bin .add (.t 12) (.k (I 1))), none⟩,
    ⟨(some 12), (.mv (.t 34)), none⟩]))))
theorem w37L0 {x : Cx} {Q : QT} {ks : List Kont} {fr : Fr} {H : AHeap} {ms : List Nat} : W x Q c37L0 ks fr H ms = W x Q (.seq (.ops [⟨(some 13), (.bin .lss (.t 12) (.t 11)), none⟩])
    (.seq (.cond (.t 13)
      .skip
      (.exit 0))
    (.seq (.block 1 (.seq (.ops [⟨(some 14), (.mv (.t 12)), none⟩,
      ⟨(some 6), (.mv (.t 14)), none⟩])
    (.ops [⟨(some 15), (.mv (.t 5)), none⟩,
      ⟨(some 16), (.mv (.t 6)), none⟩,
      ⟨(some 17), (.mv (.t 6)), none⟩,
      ⟨(some 18), (.bin .add (.t 17) (.k (I 1))), none⟩,
      ⟨(some 19), (.mv (.t 6)), none⟩,
      ⟨(some 20), (.bin .rem (.t 19) (.k (I 2))), none⟩,
      ⟨(some 21), (.build [(I 0), (I 0), (I 0)] [(0, 1, (.t 16)), (1, 1, (.t 18)), (2, 1, (.t 20))]), none⟩,
      ⟨(some 22), (.mv (.t 0)), none⟩,
      ⟨(some 23), (.mv (.t 6)), none⟩,
      ⟨(some 24), (.bin .add (.t 22) (.t 23)), none⟩,
      ⟨(some 25), (.mv (.t 0)), none⟩,
      ⟨(some 26), (.mv (.t 6)), none⟩,
      ⟨(some 27), (.bin .add (.t 25) (.t 26)), none⟩,
      ⟨(some 28), (.bin .add (.t 27) (.k (I 1))), none⟩,
      ⟨(some 29), (.mv (.t 6)), none⟩,
      ⟨(some 30), (.bin .rem (.t 29) (.k (I 2))), none⟩,
      ⟨(some 31), (.build [(I 0), (I 0), (I 0)] [(0, 1, (.t 24)), (1, 1, (.t 28)), (2, 1, (.t 30))]), none⟩,
      ⟨(some 32), (.bslice 3 2 [(I 0), (I 0), (I 0)] [(0, 3, (.t 21)), (3, 3, (.t 31))]), none⟩,
      ⟨(some 33), (.append 3 24 (.t 15) (.t 32)), none⟩,
      ⟨(some 5), (.mv (.t 33)), none⟩])))
    (.ops [⟨(some 34), (.bin .add (.t 12) (.k (I 1))), none⟩,
      ⟨(some 12), (.mv (.t 34)), none⟩])))) ks fr H ms := rfl
def c37 : ICode :=
  (.seq (.ops [⟨(some 4), (.mv (.k (B false))), none⟩])
  (.seq (.ops [⟨(some 5), (.mv (.k nilSl)), none⟩])
  (.seq (.seq (.ops [⟨(some 10), (.mv (.t 0)), none⟩,
    ⟨(some 11), (.bin .sub (.t 10) (.k (I 1))), none⟩,
    ⟨(some 12), (.mv (.k (I 0))), none⟩])
  (.block 0 (.loop c37L0)))
  c37T1)))
theorem w37 {x : Cx} {Q : QT} {ks : List Kont} {fr : Fr} {H : AHeap} {ms : List Nat} : W x Q c37 ks fr H ms = W x Q (.seq (.ops [⟨(some 4), (.mv (.k (B false))), none⟩])
    (.seq (.ops [⟨(some 5), (.mv (.k nilSl)), none⟩])
    (.seq (.seq (.ops [⟨(some 10), (.mv (.t 0)), none⟩,
      ⟨(some 11), (.bin .sub (.t 10) (.k (I 1))), none⟩,
      ⟨(some 12), (.mv (.k (I 0))), none⟩])
    (.block 0 (.loop c37L0)))
    c37T1))) ks fr H ms := rfl
def r37 : List IRes := [(.tmp 4)]
theorem t37 : Try.f37.body.bind (trCode Try.prog Try.f37.ntmps) = some (strip c37) := by kernel_rfl
theorem q37 : trRes Try.prog Try.f37.results.toList = some r37 := by kernel_rfl
theorem fn37 : Try.prog.funcs[37]? = some Try.f37 := by kernel_rfl
theorem nn37 : (Try.f37.name == "runtime.NumGoroutine") = false := by kernel_rfl
theorem nt37 : Try.f37.ntmps = 56 := by kernel_rfl
def c5T3 : ICode :=
  (.keep [0, 8] (.seq (.seq (.ops [⟨(some 109), (.mv (.t 0)), none⟩,
    ⟨(some 110), (.bin .eql (.t 109) (.k (I 1))), none⟩])
  (.cond (.t 110)
    (.seq (.ops [⟨(some 111), (.call (.k (.fn (.func 18) [] [])) []), none⟩,
      ⟨(some 4), (.mv (.t 111)), none⟩])
    .ret)
    .skip))
  (.seq (.ops [⟨(some 113), (.mv (.t 0)), none⟩,
    ⟨(some 114), (.bin .sub (.t 113) (.k (I 1))), none⟩,
    ⟨(some 115), (.mv (.t 8)), none⟩,
    ⟨(some 116), (.call (.k (.fn (.func 22) [] [])) [(.t 114), (.t 115)]), none⟩,
    ⟨(some 112), (.mv (.t 116)), none⟩,
    ⟨(some 117), (.ext (.t 112) 0), none⟩,
    ⟨(some 118), (.ext (.t 112) 1), none⟩,
    ⟨(some 15), (.mv (.t 117)), none⟩,
    ⟨(some 6), (.mv (.t 118)), none⟩])
  (.seq (.ops [⟨(some 119), (.mv (.t 15)), none⟩,
    ⟨(some 120), (.mv (.t 119)), none⟩,
    ⟨(some 121), (.mv (.t 6)), (some (120, true))⟩,
    ⟨(some 122), (.bin .eql (.t 121) (.k (I 0))), (some (120, true))⟩,
    ⟨(some 123), (.pick (.t 120) (.t 122) (.k (B false))), none⟩,
    ⟨(some 124), (.mv (.t 123)), none⟩,
    ⟨(some 125), (.call (.k (.fn (.func 18) [] [])) []), (some (124, true))⟩,
    ⟨(some 126), (.pick (.t 124) (.t 125) (.k (B false))), none⟩,
    ⟨(some 4), (.mv (.t 126)), none⟩])
  .ret))))
theorem w5T3 {x : Cx} {Q : QT} {ks : List Kont} {fr : Fr} {H : AHeap} {ms : List Nat} : W x Q c5T3 ks fr H ms = W x Q (.keep [0, 8] (.seq (.seq (.ops [⟨(some 109), (.mv (.t 0)), none⟩,
      ⟨(some 110), (.bin .eql (.t 109) (.k (I 1))), none⟩])
    (.cond (.t 110)
      (.seq (.ops [⟨(some 111), (.call (.k (.fn (.func 18) [] [])) []), none⟩,
        ⟨(some 4), (.mv (.t 111)), none⟩])
      .ret)
      .skip))
    (.seq (.ops [⟨(some 113), (.mv (.t 0)), none⟩,
      ⟨(some 114), (.bin .sub (.t 113) (.k (I 1))), none⟩,
      ⟨(some 115), (.mv (.t 8)), none⟩,
      ⟨(some 116), (.call (.k (.fn (.func 22) [] [])) [(.t 114), (.t 115)]), none⟩,
      ⟨(some 112), (.mv (.t 116)), none⟩,
      ⟨(some 117), (.ext (.t 112) 0), none⟩,
      ⟨(some 118), (.ext (.t 112) 1), none⟩,
      ⟨(some 15), (.mv (.t 117)), none⟩,
      ⟨(some 6), (.mv (.t 118)), none⟩])
    (.seq (.ops [⟨(some 119), (.mv (.t 15)), none⟩,
      ⟨(some 120), (.mv (.t 119)), none⟩,
      ⟨(some 121), (.mv (.t 6)), (some (120, true))⟩,
      ⟨(some 122), (.bin .eql (.t 121) (.k (I 0))), (some (120, true))⟩,
      ⟨(some 123), (.pick (.t 120) (.t 122) (.k (B false))), none⟩,
      ⟨(some 124), (.mv (.t 123)), none⟩,
      ⟨(some 125), (.call (.k (.fn (.func 18) [] [])) []), (some (124, true))⟩,
      ⟨(some 126), (.pick (.t 124) (.t 125) (.k (B false))), none⟩,
      ⟨(some 4), (.mv (.t 126)), none⟩])
    .ret)))) ks fr H ms := rfl
/- live: [0, 8, 93, 94] -/
def c5L2 : ICode :=
  (.seq (.ops [⟨(some 95), (.bin .lss (.t 94) (.k (I 2))), none⟩])
  (.seq (.cond (.t 95)
    .skip
    (.exit 2))
  (.seq (.block 3 (.seq (.ops [⟨(some 96), (.ixV false 2 1 (.t 93) (.t 94)), none⟩,
    ⟨(some 12), (.mv (.t 96)), none⟩])
  (.seq (.ops [⟨(some 98), (.mv (.t 12)), none⟩,
    ⟨(some 99), (.call (.k (.fn (.func 15) [] [])) [(.t 98)]), none⟩,
    ⟨(some 97), (.mv (.t 99)), none⟩,
    ⟨(some 100), (.ext (.t 97) 0), none⟩,
    ⟨(some 101), (.ext (.t 97) 1), none⟩,
    ⟨(some 13), (.mv (.t 100)), none⟩,
    ⟨(some 14), (.mv (.t 101)), none⟩])
  (.seq (.ops [⟨(some 102), (.mv (.t 13)), none⟩,
    ⟨(some 103), (.un .not (.t 102)), none⟩,
    ⟨(some 104), (.mv (.t 103)), none⟩,
    ⟨(some 105), (.mv (.t 14)), (some (104, false))⟩,
    ⟨(some 106), (.bin .neq (.t 105) (.k (I 0))), (some (104, false))⟩,
    ⟨(some 107), (.pick (.t 104) (.k (B true)) (.t 106)), none⟩])
  (.cond (.t 107)
    (.seq (.ops [⟨(some 4), (.mv (.k (B false))), none⟩])
    .ret)
    .skip)))))
  (.ops [⟨(some 108), (.bin .add (.t 94) (.k (I 1))), none⟩,
    ⟨(some 94), (.mv (.t 108)), none⟩]))))
theorem w5L2 {x : Cx} {Q : QT} {ks : List Kont} {fr : Fr} {H : AHeap} {ms : List Nat} : W x Q c5L2 ks fr H ms = W x Q (.seq (.ops [⟨(some 95), (.bin .lss (.t 94) (.k (I 2))), none⟩])
    (.seq (.cond (.t 95)
      .skip
      (.exit 2))
    (.seq (.block 3 (.seq (.ops [⟨(some 96), (.ixV false 2 1 (.t 93) (.t 94)), none⟩,
      ⟨(some 12), (.mv (.t 96)), none⟩])
    (.seq (.ops [⟨(some 98), (.mv (.t 12)), none⟩,
      ⟨(some 99), (.call (.k (.fn (.func 15) [] [])) [(.t 98)]), none⟩,
      ⟨(some 97), (.mv (.t 99)), none⟩,
      ⟨(some 100), (.ext (.t 97) 0), none⟩,
      ⟨(some 101), (.ext (.t 97) 1), none⟩,
      ⟨(some 13), (.mv (.t 100)), none⟩,
      ⟨(some 14), (.mv (.t 101)), none⟩])
    (.seq (.ops [⟨(some 102), (.mv (.t 13)), none⟩,
      ⟨(some 103), (.un .not (.t 102)), none⟩,
      ⟨(some 104), (.mv (.t 103)), none⟩,
      ⟨(some 105), (.mv (.t 14)), (some (104, false))⟩,
      ⟨(some 106), (.bin .neq (.t 105) (.k (I 0))), (some (104, false))⟩,
      ⟨(some 107), (.pick (.t 104) (.k (B true)) (.t 106)), none⟩])
    (.cond (.t 107)
      (.seq (.ops [⟨(some 4), (.mv (.k (B false))), none⟩])
      .ret)
      .skip)))))
    (.ops [⟨(some 108), (.bin .add (.t 94) (.k (I 1))), none⟩,
      ⟨(some 94), (.mv (.t 108)), none⟩])))) ks fr H ms := rfl
def c5T1 : ICode :=
  (.keep [0, 7, 8] (.seq (.seq (.ops [⟨(some 93), (.load true 2 (.t 7)), none⟩,
    ⟨(some 94), (.mv (.k (I 0))), none⟩])
  (.block 2 (.loop c5L2)))
  c5T3))
theorem w5T1 {x : Cx} {Q : QT} {ks : List Kont} {fr : Fr} {H : AHeap} {ms : List Nat} : W x Q c5T1 ks fr H ms = W x Q (.keep [0, 7, 8] (.seq (.seq (.ops [⟨(some 93), (.load true 2 (.t 7)), none⟩,
      ⟨(some 94), (.mv (.k (I 0))), none⟩])
    (.block 2 (.loop c5L2)))
    c5T3)) ks fr H ms := rfl
/- live: [0, 7, 8, 53, 54, 55] -/
def c5L0 : ICode :=
  (.seq (.ops [⟨(some 56), (.bin .lss (.t 55) (.t 54)), none⟩])
  (.seq (.cond (.t 56)
    .skip
    (.exit 0))
  (.seq (.block 1 (.seq (.ops [⟨(some 57), (.ixS 1 (.t 53) (.t 55)), none⟩,
    ⟨(some 58), (.load false 1 (.t 57)), none⟩,
    ⟨(some 10), (.mv (.t 58)), none⟩])
  (.seq (.draw 2 [] (.early 2 ⟨(some 59), (.mv (.t 10)), none⟩
    (.early 2 ⟨(some 60), (.mv (.t 0)), none⟩
    (.early 2 ⟨(some 61), (.bin .quo (.t 59) (.t 60)), none⟩
    (.early 1 ⟨(some 62), (.mv (.t 10)), none⟩
    (.early 1 ⟨(some 63), (.mv (.t 0)), none⟩
    (.early 1 ⟨(some 64), (.bin .quo (.t 62) (.t 63)), none⟩
    (.early 1 ⟨(some 65), (.ixP 2 1 (.t 7) (.t 64)), none⟩
    (.early 1 ⟨(some 66), (.load false 1 (.t 65)), none⟩
    (.early 1 ⟨(some 67), (.mv (.t 10)), none⟩
    (.early 1 ⟨(some 68), (.mv (.t 0)), none⟩
    (.early 1 ⟨(some 69), (.bin .rem (.t 67) (.t 68)), none⟩
    (.step 0 1 ⟨(some 70), (.bslice 1 1 [(I 0)] [(0, 1, (.t 69))]), none⟩
    (.step 1 1 ⟨(some 71), (.append 1 8 (.t 66) (.t 70)), none⟩
    (.early 0 ⟨(some 72), (.ixP 2 1 (.t 7) (.t 61)), none⟩
    (.step 2 0 ⟨none, (.store 1 (.t 72) (.t 71)), none⟩
    .done))))))))))))))))
  (.keep [0, 7, 8, 10, 53, 54, 55] (.seq (.ops [⟨(some 73), (.mv (.t 10)), none⟩,
    ⟨(some 74), (.mv (.t 0)), none⟩,
    ⟨(some 75), (.bin .rem (.t 73) (.t 74)), none⟩,
    ⟨(some 76), (.mv (.t 0)), none⟩,
    ⟨(some 77), (.bin .sub (.t 76) (.k (I 1))), none⟩,
    ⟨(some 78), (.bin .lss (.t 75) (.t 77)), none⟩])
  (.cond (.t 78)
    (.draw 2 [] (.early 1 ⟨(some 79), (.mv (.t 8)), none⟩
      (.early 1 ⟨(some 80), (.mv (.t 10)), none⟩
      (.early 1 ⟨(some 81), (.mv (.t 0)), none⟩
      (.early 1 ⟨(some 82), (.bin .quo (.t 80) (.t 81)), none⟩
      (.early 1 ⟨(some 83), (.mv (.t 0)), none⟩
      (.early 1 ⟨(some 84), (.bin .sub (.t 83) (.k (I 1))), none⟩
      (.early 1 ⟨(some 85), (.bin .mul (.t 82) (.t 84)), none⟩
      (.early 1 ⟨(some 86), (.mv (.t 10)), none⟩
      (.early 1 ⟨(some 87), (.mv (.t 0)), none⟩
      (.early 1 ⟨(some 88), (.bin .rem (.t 86) (.t 87)), none⟩
      (.early 1 ⟨(some 89), (.bin .add (.t 85) (.t 88)), none⟩
      (.step 0 1 ⟨(some 90), (.bslice 1 1 [(I 0)] [(0, 1, (.t 89))]), none⟩
      (.step 1 0 ⟨(some 91), (.append 1 8 (.t 79) (.t 90)), none⟩
      (.early 0 ⟨(some 8), (.mv (.t 91)), none⟩
      .done)))))))))))))))
    .skip))))))
  (.ops [⟨(some 92), (.bin .add (.t 55) (.k (I 1))), none⟩,
    ⟨(some 55), (.mv (.t 92)), none⟩]))))
theorem w5L0 {x : Cx} {Q : QT} {ks : List Kont} {fr : Fr} {H : AHeap} {ms : List Nat} : W x Q c5L0 ks fr H ms = W x Q (.seq (.ops [⟨(some 56), (.bin .lss (.t 55) (.t 54)), none⟩])
    (.seq (.cond (.t 56)
      .skip
      (.exit 0))
    (.seq (.block 1 (.seq (.ops [⟨(some 57), (.ixS 1 (.t 53) (.t 55)), none⟩,
      ⟨(some 58), (.load false 1 (.t 57)), none⟩,
      ⟨(some 10), (.mv (.t 58)), none⟩])
    (.seq (.draw 2 [] (.early 2 ⟨(some 59), (.mv (.t 10)), none⟩
      (.early 2 ⟨(some 60), (.mv (.t 0)), none⟩
      (.early 2 ⟨(some 61), (.bin .quo (.t 59) (.t 60)), none⟩
      (.early 1 ⟨(some 62), (.mv (.t 10)), none⟩
      (.early 1 ⟨(some 63), (.mv (.t 0)), none⟩
      (.early 1 ⟨(some 64), (.bin .quo (.t 62) (.t 63)), none⟩
      (.early 1 ⟨(some 65), (.ixP 2 1 (.t 7) (.t 64)), none⟩
      (.early 1 ⟨(some 66), (.load false 1 (.t 65)), none⟩
      (.early 1 ⟨(some 67), (.mv (.t 10)), none⟩
      (.early 1 ⟨(some 68), (.mv (.t 0)), none⟩
      (.early 1 ⟨(some 69), (.bin .rem (.t 67) (.t 68)), none⟩
      (.step 0 1 ⟨(some 70), (.bslice 1 1 [(I 0)] [(0, 1, (.t 69))]), none⟩
      (.step 1 1 ⟨(some 71), (.append 1 8 (.t 66) (.t 70)), none⟩
      (.early 0 ⟨(some 72), (.ixP 2 1 (.t 7) (.t 61)), none⟩
      (.step 2 0 ⟨none, (.store 1 (.t 72) (.t 71)), none⟩
      .done))))))))))))))))
    (.keep [0, 7, 8, 10, 53, 54, 55] (.seq (.ops [⟨(some 73), (.mv (.t 10)), none⟩,
      ⟨(some 74), (.mv (.t 0)), none⟩,
      ⟨(some 75), (.bin .rem (.t 73) (.t 74)), none⟩,
      ⟨(some 76), (.mv (.t 0)), none⟩,
      ⟨(some 77), (.bin .sub (.t 76) (.k (I 1))), none⟩,
      ⟨(some 78), (.bin .lss (.t 75) (.t 77)), none⟩])
    (.cond (.t 78)
      (.draw 2 [] (.early 1 ⟨(some 79), (.mv (.t 8)), none⟩
        (.early 1 ⟨(some 80), (.mv (.t 10)), none⟩
        (.early 1 ⟨(some 81), (.mv (.t 0)), none⟩
        (.early 1 ⟨(some 82), (.bin .quo (.t 80) (.t 81)), none⟩
        (.early 1 ⟨(some 83), (.mv (.t 0)), none⟩
        (.early 1 ⟨(some 84), (.bin .sub (.t 83) (.k (I 1))), none⟩
        (.early 1 ⟨(some 85), (.bin .mul (.t 82) (.t 84)), none⟩
        (.early 1 ⟨(some 86), (.mv (.t 10)), none⟩
        (.early 1 ⟨(some 87), (.mv (.t 0)), none⟩
        (.early 1 ⟨(some 88), (.bin .rem (.t 86) (.t 87)), none⟩
        (.early 1 ⟨(some 89), (.bin .add (.t 85) (.t 88)), none⟩
        (.step 0 1 ⟨(some 90), (.bslice 1 1 [(I 0)] [(0, 1, (.t 89))]), none⟩
        (.step 1 0 ⟨(some 91), (.append 1 8 (.t 79) (.t 90)), none⟩
        (.early 0 ⟨(some 8), (.mv (.t 91)), none⟩
        .done)))))))))))))))
      .skip))))))
    (.ops [⟨(some 92), (.bin .add (.t 55) (.k (I 1))), none⟩,
      ⟨(some 55), (.mv (.t 92)), none⟩])))) ks fr H ms := rfl
def c5 : ICode :=
  (.seq (.ops [⟨(some 4), (.mv (.k (B false))), none⟩])
  (.seq (.ops [⟨(some 17), (.mv (.t 0)), none⟩,
    ⟨(some 18), (.mv (.t 1)), none⟩,
    ⟨(some 19), (.call (.k (.fn (.func 16) [] [])) [(.t 18)]), none⟩,
    ⟨(some 20), (.call (.k (.fn (.func 22) [] [])) [(.t 17), (.t 19)]), none⟩,
    ⟨(some 16), (.mv (.t 20)), none⟩,
    ⟨(some 21), (.ext (.t 16) 0), none⟩,
    ⟨(some 22), (.ext (.t 16) 1), none⟩,
    ⟨(some 5), (.mv (.t 21)), none⟩,
    ⟨(some 6), (.mv (.t 22)), none⟩])
  (.seq (.seq (.ops [⟨(some 23), (.mv (.t 6)), none⟩,
    ⟨(some 24), (.bin .neq (.t 23) (.k (I 0))), none⟩,
    ⟨(some 25), (.mv (.t 24)), none⟩,
    ⟨(some 26), (.mv (.t 0)), (some (25, false))⟩,
    ⟨(some 27), (.bin .lss (.t 26) (.k (I 1))), (some (25, false))⟩,
    ⟨(some 28), (.pick (.t 25) (.k (B true)) (.t 27)), none⟩,
    ⟨(some 29), (.mv (.t 28)), none⟩,
    ⟨(some 30), (.mv (.t 0)), (some (29, false))⟩,
    ⟨(some 31), (.bin .gtr (.t 30) (.k (I 4))), (some (29, false))⟩,
    ⟨(some 32), (.pick (.t 29) (.k (B true)) (.t 31)), none⟩,
    ⟨(some 33), (.mv (.t 32)), none⟩,
    ⟨(some 34), (.mv (.t 1)), (some (33, false))⟩,
    ⟨(some 35), (.len (.t 34)), (some (33, false))⟩,
    ⟨(some 36), (.mv (.t 0)), (some (33, false))⟩,
    ⟨(some 37), (.bin .mul (.k (I 2)) (.t 36)), (some (33, false))⟩,
    ⟨(some 38), (.bin .neq (.t 35) (.t 37)), (some (33, false))⟩,
    ⟨(some 39), (.pick (.t 33) (.k (B true)) (.t 38)), none⟩,
    ⟨(some 40), (.mv (.t 39)), none⟩,
    ⟨(some 41), (.mv (.t 1)), (some (40, false))⟩,
    ⟨(some 42), (.call (.k (.fn (.func 23) [] [])) [(.t 41), (.k (I 8))]), (some (40, false))⟩,
    ⟨(some 43), (.un .not (.t 42)), (some (40, false))⟩,
    ⟨(some 44), (.pick (.t 40) (.k (B true)) (.t 43)), none⟩])
  (.cond (.t 44)
    (.seq (.ops [⟨(some 45), (.mv (.t 6)), none⟩,
      ⟨(some 46), (.bin .eql (.t 45) (.k (I 2))), none⟩,
      ⟨(some 47), (.mv (.t 46)), none⟩,
      ⟨(some 48), (.call (.k (.fn (.func 18) [] [])) []), (some (47, true))⟩,
      ⟨(some 49), (.pick (.t 47) (.t 48) (.k (B false))), none⟩,
      ⟨(some 4), (.mv (.t 49)), none⟩])
    .ret)
    .skip))
  (.seq (.seq (.ops [⟨(some 50), (.mv (.t 5)), none⟩,
    ⟨(some 51), (.un .not (.t 50)), none⟩])
  (.cond (.t 51)
    (.seq (.ops [⟨(some 52), (.call (.k (.fn (.func 18) [] [])) []), none⟩,
      ⟨(some 4), (.mv (.t 52)), none⟩])
    .ret)
    .skip))
  (.seq (.ops [⟨(some 7), (.alloc [nilSl, nilSl]), none⟩])
  (.seq (.ops [⟨(some 8), (.mv (.k nilSl)), none⟩])
  (.seq (.seq (.ops [⟨(some 53), (.mv (.t 1)), none⟩,
    ⟨(some 54), (.len (.t 53)), none⟩,
    ⟨(some 55), (.mv (.k (I 0))), none⟩])
  (.block 0 (.loop c5L0)))
  c5T1)))))))
theorem w5 {x : Cx} {Q : QT} {ks : List Kont} {fr : Fr} {H : AHeap} {ms : List Nat} : W x Q c5 ks fr H ms = W x Q (.seq (.ops [⟨(some 4), (.mv (.k (B false))), none⟩])
    (.seq (.ops [⟨(some 17), (.mv (.t 0)), none⟩,
      ⟨(some 18), (.mv (.t 1)), none⟩,
      ⟨(some 19), (.call (.k (.fn (.func 16) [] [])) [(.t 18)]), none⟩,
      ⟨(some 20), (.call (.k (.fn (.func 22) [] [])) [(.t 17), (.t 19)]), none⟩,
      ⟨(some 16), (.mv (.t 20)), none⟩,
      ⟨(some 21), (.ext (.t 16) 0), none⟩,
      ⟨(some 22), (.ext (.t 16) 1), none⟩,
      ⟨(some 5), (.mv (.t 21)), none⟩,
      ⟨(some 6), (.mv (.t 22)), none⟩])
    (.seq (.seq (.ops [⟨(some 23), (.mv (.t 6)), none⟩,
      ⟨(some 24), (.bin .neq (.t 23) (.k (I 0))), none⟩,
      ⟨(some 25), (.mv (.t 24)), none⟩,
      ⟨(some 26), (.mv (.t 0)), (some (25, false))⟩,
      ⟨(some 27), (.bin .lss (.t 26) (.k (I 1))), (some (25, false))⟩,
      ⟨(some 28), (.pick (.t 25) (.k (B true)) (.t 27)), none⟩,
      ⟨(some 29), (.mv (.t 28)), none⟩,
      ⟨(some 30), (.mv (.t 0)), (some (29, false))⟩,
      ⟨(some 31), (.bin .gtr (.t 30) (.k (I 4))), (some (29, false))⟩,
      ⟨(some 32), (.pick (.t 29) (.k (B true)) (.t 31)), none⟩,
      ⟨(some 33), (.mv (.t 32)), none⟩,
      ⟨(some 34), (.mv (.t 1)), (some (33, false))⟩,
      ⟨(some 35), (.len (.t 34)), (some (33, false))⟩,
      ⟨(some 36), (.mv (.t 0)), (some (33, false))⟩,
      ⟨(some 37), (.bin .mul (.k (I 2)) (.t 36)), (some (33, false))⟩,
      ⟨(some 38), (.bin .neq (.t 35) (.t 37)), (some (33, false))⟩,
      ⟨(some 39), (.pick (.t 33) (.k (B true)) (.t 38)), none⟩,
      ⟨(some 40), (.mv (.t 39)), none⟩,
      ⟨(some 41), (.mv (.t 1)), (some (40, false))⟩,
      ⟨(some 42), (.call (.k (.fn (.func 23) [] [])) [(.t 41), (.k (I 8))]), (some (40, false))⟩,
      ⟨(some 43), (.un .not (.t 42)), (some (40, false))⟩,
      ⟨(some 44), (.pick (.t 40) (.k (B true)) (.t 43)), none⟩])
    (.cond (.t 44)
      (.seq (.ops [⟨(some 45), (.mv (.t 6)), none⟩,
        ⟨(some 46), (.bin .eql (.t 45) (.k (I 2))), none⟩,
        ⟨(some 47), (.mv (.t 46)), none⟩,
        ⟨(some 48), (.call (.k (.fn (.func 18) [] [])) []), (some (47, true))⟩,
        ⟨(some 49), (.pick (.t 47) (.t 48) (.k (B false))), none⟩,
        ⟨(some 4), (.mv (.t 49)), none⟩])
      .ret)
      .skip))
    (.seq (.seq (.ops [⟨(some 50), (.mv (.t 5)), none⟩,
      ⟨(some 51), (.un .not (.t 50)), none⟩])
    (.cond (.t 51)
      (.seq (.ops [⟨(some 52), (.call (.k (.fn (.func 18) [] [])) []), none⟩,
        ⟨(some 4), (.mv (.t 52)), none⟩])
      .ret)
      .skip))
    (.seq (.ops [⟨(some 7), (.alloc [nilSl, nilSl]), none⟩])
    (.seq (.ops [⟨(some 8), (.mv (.k nilSl)), none⟩])
    (.seq (.seq (.ops [⟨(some 53), (.mv (.t 1)), none⟩,
      ⟨(some 54), (.len (.t 53)), none⟩,
      ⟨(some 55), (.mv (.k (I 0))), none⟩])
    (.block 0 (.loop c5L0)))
    c5T1))))))) ks fr H ms := rfl
def r5 : List IRes := [(.tmp 4)]
theorem t5 : Try.f5.body.bind (trCode Try.prog Try.f5.ntmps) = some (strip c5) := by kernel_rfl
theorem q5 : trRes Try.prog Try.f5.results.toList = some r5 := by kernel_rfl
theorem fn5 : Try.prog.funcs[5]? = some Try.f5 := by kernel_rfl
theorem nn5 : (Try.f5.name == "runtime.NumGoroutine") = false := by kernel_rfl
theorem nt5 : Try.f5.ntmps = 127 := by kernel_rfl
def c6T1 : ICode :=
  (.keep [0, 3, 7] (.seq (.seq (.ops [⟨(some 69), (.mv (.t 7)), none⟩,
    ⟨(some 70), (.mv (.t 3)), none⟩,
    ⟨(some 71), (.bin .neq (.t 69) (.t 70)), none⟩])
  (.cond (.t 71)
    (.seq (.ops [⟨(some 2), (.mv (.k (B false))), none⟩])
    .ret)
    .skip))
  (.seq (.seq (.ops [⟨(some 72), (.mv (.t 0)), none⟩,
    ⟨(some 73), (.bin .gtr (.t 72) (.k (I 3))), none⟩])
  (.cond (.t 73)
    (.seq (.ops [⟨(some 74), (.call (.k (.fn (.func 18) [] [])) []), none⟩,
      ⟨(some 2), (.mv (.t 74)), none⟩])
    .ret)
    .skip))
  (.seq (.ops [⟨(some 76), (.mv (.t 0)), none⟩,
    ⟨(some 77), (.call (.k (.fn (.func 27) [] [])) [(.t 76)]), none⟩,
    ⟨(some 75), (.mv (.t 77)), none⟩,
    ⟨(some 78), (.ext (.t 75) 0), none⟩,
    ⟨(some 79), (.ext (.t 75) 1), none⟩,
    ⟨(some 11), (.mv (.t 78)), none⟩,
    ⟨(some 4), (.mv (.t 79)), none⟩])
  (.seq (.ops [⟨(some 80), (.mv (.t 4)), none⟩,
    ⟨(some 81), (.bin .eql (.t 80) (.k (I 0))), none⟩,
    ⟨(some 82), (.mv (.t 81)), none⟩,
    ⟨(some 83), (.mv (.t 11)), (some (82, true))⟩,
    ⟨(some 84), (.build [(I 0), (I 0), (I 0), (I 0)] [(0, 1, (.k (I 0))), (1, 1, (.k (I 2))), (2, 1, (.k (I 8))), (3, 1, (.k (I 60)))]), (some (82, true))⟩,
    ⟨(some 85), (.mv (.t 0)), (some (82, true))⟩,
    ⟨(some 86), (.ixV false 4 1 (.t 84) (.t 85)), (some (82, true))⟩,
    ⟨(some 87), (.bin .eql (.t 83) (.t 86)), (some (82, true))⟩,
    ⟨(some 88), (.pick (.t 82) (.t 87) (.k (B false))), none⟩,
    ⟨(some 89), (.mv (.t 88)), none⟩,
    ⟨(some 90), (.call (.k (.fn (.func 18) [] [])) []), (some (89, true))⟩,
    ⟨(some 91), (.pick (.t 89) (.t 90) (.k (B false))), none⟩,
    ⟨(some 2), (.mv (.t 91)), none⟩])
  .ret)))))
theorem w6T1 {x : Cx} {Q : QT} {ks : List Kont} {fr : Fr} {H : AHeap} {ms : List Nat} : W x Q c6T1 ks fr H ms = W x Q (.keep [0, 3, 7] (.seq (.seq (.ops [⟨(some 69), (.mv (.t 7)), none⟩,
      ⟨(some 70), (.mv (.t 3)), none⟩,
      ⟨(some 71), (.bin .neq (.t 69) (.t 70)), none⟩])
    (.cond (.t 71)
      (.seq (.ops [⟨(some 2), (.mv (.k (B false))), none⟩])
      .ret)
      .skip))
    (.seq (.seq (.ops [⟨(some 72), (.mv (.t 0)), none⟩,
      ⟨(some 73), (.bin .gtr (.t 72) (.k (I 3))), none⟩])
    (.cond (.t 73)
      (.seq (.ops [⟨(some 74), (.call (.k (.fn (.func 18) [] [])) []), none⟩,
        ⟨(some 2), (.mv (.t 74)), none⟩])
      .ret)
      .skip))
    (.seq (.ops [⟨(some 76), (.mv (.t 0)), none⟩,
      ⟨(some 77), (.call (.k (.fn (.func 27) [] [])) [(.t 76)]), none⟩,
      ⟨(some 75), (.mv (.t 77)), none⟩,
      ⟨(some 78), (.ext (.t 75) 0), none⟩,
      ⟨(some 79), (.ext (.t 75) 1), none⟩,
      ⟨(some 11), (.mv (.t 78)), none⟩,
      ⟨(some 4), (.mv (.t 79)), none⟩])
    (.seq (.ops [⟨(some 80), (.mv (.t 4)), none⟩,
      ⟨(some 81), (.bin .eql (.t 80) (.k (I 0))), none⟩,
      ⟨(some 82), (.mv (.t 81)), none⟩,
      ⟨(some 83), (.mv (.t 11)), (some (82, true))⟩,
      ⟨(some 84), (.build [(I 0), (I 0), (I 0), (I 0)] [(0, 1, (.k (I 0))), (1, 1, (.k (I 2))), (2, 1, (.k (I 8))), (3, 1, (.k (I 60)))]), (some (82, true))⟩,
      ⟨(some 85), (.mv (.t 0)), (some (82, true))⟩,
      ⟨(some 86), (.ixV false 4 1 (.t 84) (.t 85)), (some (82, true))⟩,
      ⟨(some 87), (.bin .eql (.t 83) (.t 86)), (some (82, true))⟩,
      ⟨(some 88), (.pick (.t 82) (.t 87) (.k (B false))), none⟩,
      ⟨(some 89), (.mv (.t 88)), none⟩,
      ⟨(some 90), (.call (.k (.fn (.func 18) [] [])) []), (some (89, true))⟩,
      ⟨(some 91), (.pick (.t 89) (.t 90) (.k (B false))), none⟩,
      ⟨(some 2), (.mv (.t 91)), none⟩])
    .ret))))) ks fr H ms := rfl
/- live: [0, 3, 7, 49, 50] -/
def c6L0 : ICode :=
  (.seq (.ops [⟨(some 51), (.bin .lss (.t 50) (.t 49)), none⟩])
  (.seq (.cond (.t 51)
    .skip
    (.exit 0))
  (.seq (.block 1 (.seq (.ops [⟨(some 52), (.mv (.t 50)), none⟩,
    ⟨(some 8), (.mv (.t 52)), none⟩])
  (.seq (.ops [⟨(some 54), (.mv (.t 0)), none⟩,
    ⟨(some 55), (.mv (.t 8)), none⟩,
    ⟨(some 56), (.call (.k (.fn (.func 26) [] [])) [(.t 54), (.t 55)]), none⟩,
    ⟨(some 53), (.mv (.t 56)), none⟩,
    ⟨(some 57), (.ext (.t 53) 0), none⟩,
    ⟨(some 58), (.ext (.t 53) 1), none⟩,
    ⟨(some 9), (.mv (.t 57)), none⟩,
    ⟨(some 10), (.mv (.t 58)), none⟩])
  (.seq (.seq (.ops [⟨(some 59), (.mv (.t 10)), none⟩,
    ⟨(some 60), (.bin .neq (.t 59) (.k (I 0))), none⟩,
    ⟨(some 61), (.mv (.t 60)), none⟩,
    ⟨(some 62), (.mv (.t 9)), (some (61, false))⟩,
    ⟨(some 63), (.bin .lss (.t 62) (.k (I 1))), (some (61, false))⟩,
    ⟨(some 64), (.pick (.t 61) (.k (B true)) (.t 63)), none⟩])
  (.cond (.t 64)
    (.seq (.ops [⟨(some 2), (.mv (.k (B false))), none⟩])
    .ret)
    .skip))
  (.ops [⟨(some 65), (.mv (.t 7)), none⟩,
    ⟨(some 66), (.mv (.t 9)), none⟩,
    ⟨(some 67), (.bin .add (.t 65) (.t 66)), none⟩,
    ⟨(some 7), (.mv (.t 67)), none⟩])))))
  (.ops [⟨(some 68), (.bin .add (.t 50) (.k (I 1))), none⟩,
    ⟨(some 50), (.mv (.t 68)), none⟩]))))
theorem w6L0 {x : Cx} {Q : QT} {ks : List Kont} {fr : Fr} {H : AHeap} {ms : List Nat} : W x Q c6L0 ks fr H ms = W x Q (.seq (.ops [⟨(some 51), (.bin .lss (.t 50) (.t 49)), none⟩])
    (.seq (.cond (.t 51)
      .skip
      (.exit 0))
    (.seq (.block 1 (.seq (.ops [⟨(some 52), (.mv (.t 50)), none⟩,
      ⟨(some 8), (.mv (.t 52)), none⟩])
    (.seq (.ops [⟨(some 54), (.mv (.t 0)), none⟩,
      ⟨(some 55), (.mv (.t 8)), none⟩,
      ⟨(some 56), (.call (.k (.fn (.func 26) [] [])) [(.t 54), (.t 55)]), none⟩,
      ⟨(some 53), (.mv (.t 56)), none⟩,
      ⟨(some 57), (.ext (.t 53) 0), none⟩,
      ⟨(some 58), (.ext (.t 53) 1), none⟩,
      ⟨(some 9), (.mv (.t 57)), none⟩,
      ⟨(some 10), (.mv (.t 58)), none⟩])
    (.seq (.seq (.ops [⟨(some 59), (.mv (.t 10)), none⟩,
      ⟨(some 60), (.bin .neq (.t 59) (.k (I 0))), none⟩,
      ⟨(some 61), (.mv (.t 60)), none⟩,
      ⟨(some 62), (.mv (.t 9)), (some (61, false))⟩,
      ⟨(some 63), (.bin .lss (.t 62) (.k (I 1))), (some (61, false))⟩,
      ⟨(some 64), (.pick (.t 61) (.k (B true)) (.t 63)), none⟩])
    (.cond (.t 64)
      (.seq (.ops [⟨(some 2), (.mv (.k (B false))), none⟩])
      .ret)
      .skip))
    (.ops [⟨(some 65), (.mv (.t 7)), none⟩,
      ⟨(some 66), (.mv (.t 9)), none⟩,
      ⟨(some 67), (.bin .add (.t 65) (.t 66)), none⟩,
      ⟨(some 7), (.mv (.t 67)), none⟩])))))
    (.ops [⟨(some 68), (.bin .add (.t 50) (.k (I 1))), none⟩,
      ⟨(some 50), (.mv (.t 68)), none⟩])))) ks fr H ms := rfl
def c6 : ICode :=
  (.seq (.ops [⟨(some 2), (.mv (.k (B false))), none⟩])
  (.seq (.ops [⟨(some 12), (.mv (.t 0)), none⟩,
    ⟨(some 13), (.conv .u64 (.t 12)), none⟩,
    ⟨(some 14), (.bin .rem (.t 13) (.k (.val (.int .u64 7)))), none⟩,
    ⟨(some 15), (.conv .i64 (.t 14)), none⟩,
    ⟨(some 16), (.bin .add (.k (I 1)) (.t 15)), none⟩,
    ⟨(some 0), (.mv (.t 16)), none⟩])
  (.seq (.ops [⟨(some 18), (.mv (.t 0)), none⟩,
    ⟨(some 19), (.call (.k (.fn (.func 24) [] [])) [(.t 18)]), none⟩,
    ⟨(some 17), (.mv (.t 19)), none⟩,
    ⟨(some 20), (.ext (.t 17) 0), none⟩,
    ⟨(some 21), (.ext (.t 17) 1), none⟩,
    ⟨(some 3), (.mv (.t 20)), none⟩,
    ⟨(some 4), (.mv (.t 21)), none⟩])
  (.seq (.ops [⟨(some 23), (.mv (.t 0)), none⟩,
    ⟨(some 24), (.call (.k (.fn (.func 25) [] [])) [(.t 23)]), none⟩,
    ⟨(some 22), (.mv (.t 24)), none⟩,
    ⟨(some 25), (.ext (.t 22) 0), none⟩,
    ⟨(some 26), (.ext (.t 22) 1), none⟩,
    ⟨(some 5), (.mv (.t 25)), none⟩,
    ⟨(some 6), (.mv (.t 26)), none⟩])
  (.seq (.seq (.ops [⟨(some 27), (.mv (.t 4)), none⟩,
    ⟨(some 28), (.bin .neq (.t 27) (.k (I 0))), none⟩,
    ⟨(some 29), (.mv (.t 28)), none⟩,
    ⟨(some 30), (.mv (.t 6)), (some (29, false))⟩,
    ⟨(some 31), (.bin .neq (.t 30) (.k (I 0))), (some (29, false))⟩,
    ⟨(some 32), (.pick (.t 29) (.k (B true)) (.t 31)), none⟩,
    ⟨(some 33), (.mv (.t 32)), none⟩,
    ⟨(some 34), (.mv (.t 3)), (some (33, false))⟩,
    ⟨(some 35), (.build [(I 0), (I 0), (I 0), (I 0), (I 0), (I 0), (I 0), (I 0)] [(0, 1, (.k (I 0))), (1, 1, (.k (I 1))), (2, 1, (.k (I 2))), (3, 1, (.k (I 6))), (4, 1, (.k (I 16))), (5, 1, (.k (I 50))), (6, 1, (.k (I 144))), (7, 1, (.k (I 462)))]), (some (33, false))⟩,
    ⟨(some 36), (.mv (.t 0)), (some (33, false))⟩,
    ⟨(some 37), (.ixV false 8 1 (.t 35) (.t 36)), (some (33, false))⟩,
    ⟨(some 38), (.bin .neq (.t 34) (.t 37)), (some (33, false))⟩,
    ⟨(some 39), (.pick (.t 33) (.k (B true)) (.t 38)), none⟩,
    ⟨(some 40), (.mv (.t 39)), none⟩,
    ⟨(some 41), (.mv (.t 3)), (some (40, false))⟩,
    ⟨(some 42), (.mv (.t 0)), (some (40, false))⟩,
    ⟨(some 43), (.mv (.t 5)), (some (40, false))⟩,
    ⟨(some 44), (.bin .mul (.t 42) (.t 43)), (some (40, false))⟩,
    ⟨(some 45), (.bin .neq (.t 41) (.t 44)), (some (40, false))⟩,
    ⟨(some 46), (.pick (.t 40) (.k (B true)) (.t 45)), none⟩])
  (.cond (.t 46)
    (.seq (.ops [⟨(some 2), (.mv (.k (B false))), none⟩])
    .ret)
    .skip))
  (.seq (.ops [⟨(some 7), (.mv (.k (I 0))), none⟩])
  (.seq (.seq (.ops [⟨(some 47), (.mv (.t 0)), none⟩,
    ⟨(some 48), (.bin .sub (.t 47) (.k (I 1))), none⟩,
    ⟨(some 49), (.bin .shl (.k (I 1)) (.t 48)), none⟩,
    ⟨(some 50), (.mv (.k (I 0))), none⟩])
  (.block 0 (.loop c6L0)))
  c6T1)))))))
theorem w6 {x : Cx} {Q : QT} {ks : List Kont} {fr : Fr} {H : AHeap} {ms : List Nat} : W x Q c6 ks fr H ms = W x Q (.seq (.ops [⟨(some 2), (.mv (.k (B false))), none⟩])
    (.seq (.ops [⟨(some 12), (.mv (.t 0)), none⟩,
      ⟨(some 13), (.conv .u64 (.t 12)), none⟩,
      ⟨(some 14), (.bin .rem (.t 13) (.k (.val (.int .u64 7)))), none⟩,
      ⟨(some 15), (.conv .i64 (.t 14)), none⟩,
      ⟨(some 16), (.bin .add (.k (I 1)) (.t 15)), none⟩,
      ⟨(some 0), (.mv (.t 16)), none⟩])
    (.seq (.ops [⟨(some 18), (.mv (.t 0)), none⟩,
      ⟨(some 19), (.call (.k (.fn (.func 24) [] [])) [(.t 18)]), none⟩,
      ⟨(some 17), (.mv (.t 19)), none⟩,
      ⟨(some 20), (.ext (.t 17) 0), none⟩,
      ⟨(some 21), (.ext (.t 17) 1), none⟩,
      ⟨(some 3), (.mv (.t 20)), none⟩,
      ⟨(some 4), (.mv (.t 21)), none⟩])
    (.seq (.ops [⟨(some 23), (.mv (.t 0)), none⟩,
      ⟨(some 24), (.call (.k (.fn (.func 25) [] [])) [(.t 23)]), none⟩,
      ⟨(some 22), (.mv (.t 24)), none⟩,
      ⟨(some 25), (.ext (.t 22) 0), none⟩,
      ⟨(some 26), (.ext (.t 22) 1), none⟩,
      ⟨(some 5), (.mv (.t 25)), none⟩,
      ⟨(some 6), (.mv (.t 26)), none⟩])
    (.seq (.seq (.ops [⟨(some 27), (.mv (.t 4)), none⟩,
      ⟨(some 28), (.bin .neq (.t 27) (.k (I 0))), none⟩,
      ⟨(some 29), (.mv (.t 28)), none⟩,
      ⟨(some 30), (.mv (.t 6)), (some (29, false))⟩,
      ⟨(some 31), (.bin .neq (.t 30) (.k (I 0))), (some (29, false))⟩,
      ⟨(some 32), (.pick (.t 29) (.k (B true)) (.t 31)), none⟩,
      ⟨(some 33), (.mv (.t 32)), none⟩,
      ⟨(some 34), (.mv (.t 3)), (some (33, false))⟩,
      ⟨(some 35), (.build [(I 0), (I 0), (I 0), (I 0), (I 0), (I 0), (I 0), (I 0)] [(0, 1, (.k (I 0))), (1, 1, (.k (I 1))), (2, 1, (.k (I 2))), (3, 1, (.k (I 6))), (4, 1, (.k (I 16))), (5, 1, (.k (I 50))), (6, 1, (.k (I 144))), (7, 1, (.k (I 462)))]), (some (33, false))⟩,
      ⟨(some 36), (.mv (.t 0)), (some (33, false))⟩,
      ⟨(some 37), (.ixV false 8 1 (.t 35) (.t 36)), (some (33, false))⟩,
      ⟨(some 38), (.bin .neq (.t 34) (.t 37)), (some (33, false))⟩,
      ⟨(some 39), (.pick (.t 33) (.k (B true)) (.t 38)), none⟩,
      ⟨(some 40), (.mv (.t 39)), none⟩,
      ⟨(some 41), (.mv (.t 3)), (some (40, false))⟩,
      ⟨(some 42), (.mv (.t 0)), (some (40, false))⟩,
      ⟨(some 43), (.mv (.t 5)), (some (40, false))⟩,
      ⟨(some 44), (.bin .mul (.t 42) (.t 43)), (some (40, false))⟩,
      ⟨(some 45), (.bin .neq (.t 41) (.t 44)), (some (40, false))⟩,
      ⟨(some 46), (.pick (.t 40) (.k (B true)) (.t 45)), none⟩])
    (.cond (.t 46)
      (.seq (.ops [⟨(some 2), (.mv (.k (B false))), none⟩])
      .ret)
      .skip))
    (.seq (.ops [⟨(some 7), (.mv (.k (I 0))), none⟩])
    (.seq (.seq (.ops [⟨(some 47), (.mv (.t 0)), none⟩,
      ⟨(some 48), (.bin .sub (.t 47) (.k (I 1))), none⟩,
      ⟨(some 49), (.bin .shl (.k (I 1)) (.t 48)), none⟩,
      ⟨(some 50), (.mv (.k (I 0))), none⟩])
    (.block 0 (.loop c6L0)))
    c6T1))))))) ks fr H ms := rfl
def r6 : List IRes := [(.tmp 2)]
theorem t6 : Try.f6.body.bind (trCode Try.prog Try.f6.ntmps) = some (strip c6) := by kernel_rfl
theorem q6 : trRes Try.prog Try.f6.results.toList = some r6 := by kernel_rfl
theorem fn6 : Try.prog.funcs[6]? = some Try.f6 := by kernel_rfl
theorem nn6 : (Try.f6.name == "runtime.NumGoroutine") = false := by kernel_rfl
theorem nt6 : Try.f6.ntmps = 92 := by kernel_rfl
end Go.Proofs.Ythdjloegibenoaa
