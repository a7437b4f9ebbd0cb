/- The code of some functions of the program, cleaned: printed by a program of mine, checked here. -/
import Derived.Test.YtipfjfmdjmaflaaProg
import Derived.Test.YtipfjfmdjmaflaaAS
import Derived.KernelRfl
import Derived.Test.YtipfjfmdjmaflaaKA
namespace Go.Proofs.Ytipfjfmdjmaflaa
open Go.Abs AVal
def c51T1 : ICode :=
  (.keep [6, 10] (.seq (.ops [⟨(some 54), (.load true 2 (.t 6)), none⟩,
    ⟨(some 55), (.mv (.t 10)), none⟩,
    ⟨(some 56), (.call (.k (.fn (.func 84) [] [])) [(.t 54), (.t 55)]), none⟩,
    ⟨(some 4), (.mv (.t 56)), none⟩,
    ⟨(some 5), (.mv (.k (I 0))), none⟩])
  .ret))
theorem w51T1 {x : Cx} {Q : QT} {ks : List Kont} {fr : Fr} {H : AHeap} {ms : List Nat} : W x Q c51T1 ks fr H ms = W x Q (.keep [6, 10] (.seq (.ops [⟨(some 54), (.load true 2 (.t 6)), none⟩,
      ⟨(some 55), (.mv (.t 10)), none⟩,
      ⟨(some 56), (.call (.k (.fn (.func 84) [] [])) [(.t 54), (.t 55)]), none⟩,
      ⟨(some 4), (.mv (.t 56)), none⟩,
      ⟨(some 5), (.mv (.k (I 0))), none⟩])
    .ret)) ks fr H ms := rfl
/- live: [6, 8, 9, 10] -/
def c51L0 : ICode :=
  (.seq (.seq (.ops [⟨(some 35), (.load true 4 (.t 8)), none⟩,
    ⟨(some 36), (.build [(I 0), (I 0), (I 0), (I 0)] []), none⟩,
    ⟨(some 37), (.eqv true 4 (.t 35) (.t 36)), none⟩])
  (.cond (.t 37)
    .skip
    (.exit 1)))
  (.block 2 (.seq (.ops [⟨(some 38), (.mv (.t 9)), none⟩,
    ⟨(some 39), (.mkfn (.func 97) [] [(.t 8)]), none⟩,
    ⟨(some 40), (.call (.k (.fn (.func 96) [] [])) [(.t 38), (.t 39)]), none⟩,
    ⟨(some 11), (.mv (.t 40)), none⟩])
  (.seq (.ops [⟨(some 41), (.mv (.t 10)), none⟩,
    ⟨(some 42), (.mv (.t 9)), none⟩,
    ⟨(some 43), (.mv (.t 11)), none⟩,
    ⟨(some 44), (.ixS 4 (.t 42) (.t 43)), none⟩,
    ⟨(some 45), (.load true 4 (.t 44)), none⟩,
    ⟨(some 46), (.bslice 4 1 [(I 0), (I 0), (I 0), (I 0)] [(0, 4, (.t 45))]), none⟩,
    ⟨(some 47), (.append 4 32 (.t 41) (.t 46)), none⟩,
    ⟨(some 10), (.mv (.t 47)), none⟩])
  (.draw 0 [] (.early 1 ⟨(some 48), (.load true 4 (.t 8)), none⟩
    (.early 1 ⟨(some 49), (.mv (.t 9)), none⟩
    (.early 1 ⟨(some 50), (.mv (.t 11)), none⟩
    (.early 1 ⟨(some 51), (.ixS 4 (.t 49) (.t 50)), none⟩
    (.early 1 ⟨(some 52), (.load true 4 (.t 51)), none⟩
    (.step 0 0 ⟨(some 53), (.call (.k (.fn (.func 68) [] [])) [(.t 48), (.k (I (-1))), (.t 52)]), none⟩
    (.step 0 0 ⟨none, (.store 4 (.t 8) (.t 53)), none⟩
    .done))))))))))))
theorem w51L0 {x : Cx} {Q : QT} {ks : List Kont} {fr : Fr} {H : AHeap} {ms : List Nat} : W x Q c51L0 ks fr H ms = W x Q (.seq (.seq (.ops [⟨(some 35), (.load true 4 (.t 8)), none⟩,
      ⟨(some 36), (.build [(I 0), (I 0), (I 0), (I 0)] []), none⟩,
      ⟨(some 37), (.eqv true 4 (.t 35) (.t 36)), none⟩])
    (.cond (.t 37)
      .skip
      (.exit 1)))
    (.block 2 (.seq (.ops [⟨(some 38), (.mv (.t 9)), none⟩,
      ⟨(some 39), (.mkfn (.func 97) [] [(.t 8)]), none⟩,
      ⟨(some 40), (.call (.k (.fn (.func 96) [] [])) [(.t 38), (.t 39)]), none⟩,
      ⟨(some 11), (.mv (.t 40)), none⟩])
    (.seq (.ops [⟨(some 41), (.mv (.t 10)), none⟩,
      ⟨(some 42), (.mv (.t 9)), none⟩,
      ⟨(some 43), (.mv (.t 11)), none⟩,
      ⟨(some 44), (.ixS 4 (.t 42) (.t 43)), none⟩,
      ⟨(some 45), (.load true 4 (.t 44)), none⟩,
      ⟨(some 46), (.bslice 4 1 [(I 0), (I 0), (I 0), (I 0)] [(0, 4, (.t 45))]), none⟩,
      ⟨(some 47), (.append 4 32 (.t 41) (.t 46)), none⟩,
      ⟨(some 10), (.mv (.t 47)), none⟩])
    (.draw 0 [] (.early 1 ⟨(some 48), (.load true 4 (.t 8)), none⟩
      (.early 1 ⟨(some 49), (.mv (.t 9)), none⟩
      (.early 1 ⟨(some 50), (.mv (.t 11)), none⟩
      (.early 1 ⟨(some 51), (.ixS 4 (.t 49) (.t 50)), none⟩
      (.early 1 ⟨(some 52), (.load true 4 (.t 51)), none⟩
      (.step 0 0 ⟨(some 53), (.call (.k (.fn (.func 68) [] [])) [(.t 48), (.k (I (-1))), (.t 52)]), none⟩
      (.step 0 0 ⟨none, (.store 4 (.t 8) (.t 53)), none⟩
      .done)))))))))))) ks fr H ms := rfl
def c51 : ICode :=
  (.seq (.ops [⟨(some 4), (.mv (.k nilSl)), none⟩,
    ⟨(some 5), (.mv (.k (I 0))), none⟩])
  (.seq (.ops [⟨(some 13), (.mv (.t 0)), none⟩,
    ⟨(some 14), (.call (.k (.fn (.func 62) [] [])) [(.t 13)]), none⟩,
    ⟨(some 12), (.mv (.t 14)), none⟩,
    ⟨(some 15), (.ext (.t 12) 0), none⟩,
    ⟨(some 16), (.ext (.t 12) 1), none⟩,
    ⟨(some 6), (.alloc [nilSl, (I 0)]), none⟩,
    ⟨none, (.store 2 (.t 6) (.t 15)), none⟩,
    ⟨(some 7), (.mv (.t 16)), none⟩])
  (.seq (.seq (.ops [⟨(some 17), (.mv (.t 7)), none⟩,
    ⟨(some 18), (.un .not (.t 17)), none⟩])
  (.cond (.t 18)
    (.seq (.ops [⟨(some 4), (.mv (.k nilSl)), none⟩,
      ⟨(some 5), (.mv (.k (I 2))), none⟩])
    .ret)
    .skip))
  (.seq (.ops [⟨(some 20), (.load true 2 (.t 6)), none⟩,
    ⟨(some 21), (.mv (.t 1)), none⟩,
    ⟨(some 22), (.call (.k (.fn (.func 63) [] [])) [(.t 20), (.t 21), (.k (I (-100))), (.k (I 100))]), none⟩,
    ⟨(some 19), (.mv (.t 22)), none⟩,
    ⟨(some 23), (.ext (.t 19) 0), none⟩,
    ⟨(some 24), (.ext (.t 19) 1), none⟩,
    ⟨(some 8), (.alloc [(I 0), (I 0), (I 0), (I 0)]), none⟩,
    ⟨none, (.store 4 (.t 8) (.t 23)), none⟩,
    ⟨(some 7), (.mv (.t 24)), none⟩])
  (.seq (.block 0 (.seq (.ops [⟨(some 26), (.mv (.t 7)), none⟩,
    ⟨(some 27), (.un .not (.t 26)), none⟩,
    ⟨(some 25), (.mv (.t 27)), none⟩])
  (.cond (.t 25)
    (.seq (.ops [⟨(some 4), (.mv (.k nilSl)), none⟩,
      ⟨(some 5), (.mv (.k (I 2))), none⟩])
    .ret)
    (.seq (.ops [⟨(some 29), (.load true 2 (.t 6)), none⟩,
      ⟨(some 30), (.load true 4 (.t 8)), none⟩,
      ⟨(some 31), (.call (.k (.fn (.func 67) [] [])) [(.t 29), (.t 30)]), none⟩,
      ⟨(some 32), (.un .not (.t 31)), none⟩,
      ⟨(some 28), (.mv (.t 32)), none⟩])
    (.cond (.t 28)
      (.seq (.ops [⟨(some 4), (.mv (.k nilSl)), none⟩,
        ⟨(some 5), (.mv (.k (I 4))), none⟩])
      .ret)
      .skip)))))
  (.seq (.ops [⟨(some 33), (.load true 2 (.t 6)), none⟩,
    ⟨(some 34), (.call (.k (.fn (.func 85) [] [])) [(.t 33)]), none⟩,
    ⟨(some 9), (.mv (.t 34)), none⟩])
  (.seq (.ops [⟨(some 10), (.mv (.k nilSl)), none⟩])
  (.seq (.block 1 (.loop c51L0))
  c51T1))))))))
theorem w51 {x : Cx} {Q : QT} {ks : List Kont} {fr : Fr} {H : AHeap} {ms : List Nat} : W x Q c51 ks fr H ms = W x Q (.seq (.ops [⟨(some 4), (.mv (.k nilSl)), none⟩,
      ⟨(some 5), (.mv (.k (I 0))), none⟩])
    (.seq (.ops [⟨(some 13), (.mv (.t 0)), none⟩,
      ⟨(some 14), (.call (.k (.fn (.func 62) [] [])) [(.t 13)]), none⟩,
      ⟨(some 12), (.mv (.t 14)), none⟩,
      ⟨(some 15), (.ext (.t 12) 0), none⟩,
      ⟨(some 16), (.ext (.t 12) 1), none⟩,
      ⟨(some 6), (.alloc [nilSl, (I 0)]), none⟩,
      ⟨none, (.store 2 (.t 6) (.t 15)), none⟩,
      ⟨(some 7), (.mv (.t 16)), none⟩])
    (.seq (.seq (.ops [⟨(some 17), (.mv (.t 7)), none⟩,
      ⟨(some 18), (.un .not (.t 17)), none⟩])
    (.cond (.t 18)
      (.seq (.ops [⟨(some 4), (.mv (.k nilSl)), none⟩,
        ⟨(some 5), (.mv (.k (I 2))), none⟩])
      .ret)
      .skip))
    (.seq (.ops [⟨(some 20), (.load true 2 (.t 6)), none⟩,
      ⟨(some 21), (.mv (.t 1)), none⟩,
      ⟨(some 22), (.call (.k (.fn (.func 63) [] [])) [(.t 20), (.t 21), (.k (I (-100))), (.k (I 100))]), none⟩,
      ⟨(some 19), (.mv (.t 22)), none⟩,
      ⟨(some 23), (.ext (.t 19) 0), none⟩,
      ⟨(some 24), (.ext (.t 19) 1), none⟩,
      ⟨(some 8), (.alloc [(I 0), (I 0), (I 0), (I 0)]), none⟩,
      ⟨none, (.store 4 (.t 8) (.t 23)), none⟩,
      ⟨(some 7), (.mv (.t 24)), none⟩])
    (.seq (.block 0 (.seq (.ops [⟨(some 26), (.mv (.t 7)), none⟩,
      ⟨(some 27), (.un .not (.t 26)), none⟩,
      ⟨(some 25), (.mv (.t 27)), none⟩])
    (.cond (.t 25)
      (.seq (.ops [⟨(some 4), (.mv (.k nilSl)), none⟩,
        ⟨(some 5), (.mv (.k (I 2))), none⟩])
      .ret)
      (.seq (.ops [⟨(some 29), (.load true 2 (.t 6)), none⟩,
        ⟨(some 30), (.load true 4 (.t 8)), none⟩,
        ⟨(some 31), (.call (.k (.fn (.func 67) [] [])) [(.t 29), (.t 30)]), none⟩,
        ⟨(some 32), (.un .not (.t 31)), none⟩,
        ⟨(some 28), (.mv (.t 32)), none⟩])
      (.cond (.t 28)
        (.seq (.ops [⟨(some 4), (.mv (.k nilSl)), none⟩,
          ⟨(some 5), (.mv (.k (I 4))), none⟩])
        .ret)
        .skip)))))
    (.seq (.ops [⟨(some 33), (.load true 2 (.t 6)), none⟩,
      ⟨(some 34), (.call (.k (.fn (.func 85) [] [])) [(.t 33)]), none⟩,
      ⟨(some 9), (.mv (.t 34)), none⟩])
    (.seq (.ops [⟨(some 10), (.mv (.k nilSl)), none⟩])
    (.seq (.block 1 (.loop c51L0))
    c51T1)))))))) ks fr H ms := rfl
def r51 : List IRes := [(.tmp 4), (.tmp 5)]
theorem t51 : Try.f51.body.bind (trCode Try.prog Try.f51.ntmps) = some (strip c51) := by kernel_rfl
theorem q51 : trRes Try.prog Try.f51.results.toList = some r51 := by kernel_rfl
theorem fn51 : Try.prog.funcs[51]? = some Try.f51 := by kernel_rfl
theorem nn51 : (Try.f51.name == "runtime.NumGoroutine") = false := by kernel_rfl
theorem nt51 : Try.f51.ntmps = 57 := by kernel_rfl
def c52 : ICode :=
  (.seq (.ops [⟨(some 3), (.mv (.k (B false))), none⟩])
  (.seq (.ops [⟨(some 4), (.load false 1 (.t 1)), none⟩,
    ⟨(some 5), (.mv (.t 0)), none⟩,
    ⟨(some 6), (.call (.k (.fn (.func 22) [] [])) [(.t 4), (.t 5)]), none⟩,
    ⟨(some 3), (.mv (.t 6)), none⟩])
  .ret))
theorem w52 {x : Cx} {Q : QT} {ks : List Kont} {fr : Fr} {H : AHeap} {ms : List Nat} : W x Q c52 ks fr H ms = W x Q (.seq (.ops [⟨(some 3), (.mv (.k (B false))), none⟩])
    (.seq (.ops [⟨(some 4), (.load false 1 (.t 1)), none⟩,
      ⟨(some 5), (.mv (.t 0)), none⟩,
      ⟨(some 6), (.call (.k (.fn (.func 22) [] [])) [(.t 4), (.t 5)]), none⟩,
      ⟨(some 3), (.mv (.t 6)), none⟩])
    .ret)) ks fr H ms := rfl
def r52 : List IRes := [(.tmp 3)]
theorem t52 : Try.f52.body.bind (trCode Try.prog Try.f52.ntmps) = some (strip c52) := by kernel_rfl
theorem q52 : trRes Try.prog Try.f52.results.toList = some r52 := by kernel_rfl
theorem fn52 : Try.prog.funcs[52]? = some Try.f52 := by kernel_rfl
theorem nn52 : (Try.f52.name == "runtime.NumGoroutine") = false := by kernel_rfl
theorem nt52 : Try.f52.ntmps = 7 := by kernel_rfl
def c53T1 : ICode :=
  (.keep [10, 12] (.seq (.ops [⟨(some 68), (.load true 4 (.t 12)), none⟩,
    ⟨(some 69), (.load true 4 (.t 10)), none⟩,
    ⟨(some 70), (.eqv false 4 (.t 68) (.t 69)), none⟩,
    ⟨(some 6), (.mv (.t 70)), none⟩,
    ⟨(some 7), (.mv (.k (I 0))), none⟩])
  .ret))
theorem w53T1 {x : Cx} {Q : QT} {ks : List Kont} {fr : Fr} {H : AHeap} {ms : List Nat} : W x Q c53T1 ks fr H ms = W x Q (.keep [10, 12] (.seq (.ops [⟨(some 68), (.load true 4 (.t 12)), none⟩,
      ⟨(some 69), (.load true 4 (.t 10)), none⟩,
      ⟨(some 70), (.eqv false 4 (.t 68) (.t 69)), none⟩,
      ⟨(some 6), (.mv (.t 70)), none⟩,
      ⟨(some 7), (.mv (.k (I 0))), none⟩])
    .ret)) ks fr H ms := rfl
/- live: [8, 10, 11, 12, 34, 35, 36] -/
def c53L0 : ICode :=
  (.seq (.ops [⟨(some 37), (.bin .lss (.t 36) (.t 35)), none⟩])
  (.seq (.cond (.t 37)
    .skip
    (.exit 0))
  (.seq (.block 1 (.seq (.ops [⟨(some 38), (.ixS 1 (.t 34) (.t 36)), none⟩,
    ⟨(some 39), (.load false 1 (.t 38)), none⟩,
    ⟨(some 14), (.mv (.t 39)), none⟩])
  (.seq (.ops [⟨(some 41), (.load true 2 (.t 8)), none⟩,
    ⟨(some 42), (.mv (.t 14)), none⟩,
    ⟨(some 43), (.call (.k (.fn (.func 63) [] [])) [(.t 41), (.t 42), (.k (I (-100))), (.k (I 100))]), none⟩,
    ⟨(some 40), (.mv (.t 43)), none⟩,
    ⟨(some 44), (.ext (.t 40) 0), none⟩,
    ⟨(some 45), (.ext (.t 40) 1), none⟩,
    ⟨(some 15), (.alloc [(I 0), (I 0), (I 0), (I 0)]), none⟩,
    ⟨none, (.store 4 (.t 15) (.t 44)), none⟩,
    ⟨(some 16), (.mv (.t 45)), none⟩])
  (.seq (.seq (.ops [⟨(some 46), (.mv (.t 16)), none⟩,
    ⟨(some 47), (.un .not (.t 46)), none⟩,
    ⟨(some 48), (.mv (.t 47)), none⟩,
    ⟨(some 49), (.mv (.t 11)), (some (48, false))⟩,
    ⟨(some 50), (.load true 4 (.t 15)), (some (48, false))⟩,
    ⟨(some 51), (.call (.k (.fn (.func 73) [] [])) [(.t 49), (.t 50)]), (some (48, false))⟩,
    ⟨(some 52), (.un .not (.t 51)), (some (48, false))⟩,
    ⟨(some 53), (.pick (.t 48) (.k (B true)) (.t 52)), none⟩,
    ⟨(some 54), (.mv (.t 53)), none⟩,
    ⟨(some 55), (.load true 4 (.t 15)), (some (54, false))⟩,
    ⟨(some 56), (.load true 4 (.t 10)), (some (54, false))⟩,
    ⟨(some 57), (.call (.k (.fn (.func 65) [] [])) [(.t 55), (.t 56)]), (some (54, false))⟩,
    ⟨(some 58), (.un .not (.t 57)), (some (54, false))⟩,
    ⟨(some 59), (.pick (.t 54) (.k (B true)) (.t 58)), none⟩])
  (.cond (.t 59)
    (.seq (.ops [⟨(some 6), (.mv (.k (B false))), none⟩,
      ⟨(some 7), (.mv (.k (I 0))), none⟩])
    .ret)
    .skip))
  (.seq (.ops [⟨(some 60), (.load true 4 (.t 12)), none⟩,
    ⟨(some 61), (.load true 4 (.t 15)), none⟩,
    ⟨(some 62), (.call (.k (.fn (.func 68) [] [])) [(.t 60), (.k (I 1)), (.t 61)]), none⟩,
    ⟨none, (.store 4 (.t 12) (.t 62)), none⟩])
  (.seq (.ops [⟨(some 63), (.load true 4 (.t 12)), none⟩,
    ⟨(some 64), (.load true 4 (.t 10)), none⟩,
    ⟨(some 65), (.call (.k (.fn (.func 65) [] [])) [(.t 63), (.t 64)]), none⟩,
    ⟨(some 66), (.un .not (.t 65)), none⟩])
  (.cond (.t 66)
    (.seq (.ops [⟨(some 6), (.mv (.k (B false))), none⟩,
      ⟨(some 7), (.mv (.k (I 0))), none⟩])
    .ret)
    .skip)))))))
  (.ops [⟨(some 67), (.bin .add (.t 36) (.k (I 1))), none⟩,
    ⟨(some 36), (.mv (.t 67)), none⟩]))))
theorem w53L0 {x : Cx} {Q : QT} {ks : List Kont} {fr : Fr} {H : AHeap} {ms : List Nat} : W x Q c53L0 ks fr H ms = W x Q (.seq (.ops [⟨(some 37), (.bin .lss (.t 36) (.t 35)), none⟩])
    (.seq (.cond (.t 37)
      .skip
      (.exit 0))
    (.seq (.block 1 (.seq (.ops [⟨(some 38), (.ixS 1 (.t 34) (.t 36)), none⟩,
      ⟨(some 39), (.load false 1 (.t 38)), none⟩,
      ⟨(some 14), (.mv (.t 39)), none⟩])
    (.seq (.ops [⟨(some 41), (.load true 2 (.t 8)), none⟩,
      ⟨(some 42), (.mv (.t 14)), none⟩,
      ⟨(some 43), (.call (.k (.fn (.func 63) [] [])) [(.t 41), (.t 42), (.k (I (-100))), (.k (I 100))]), none⟩,
      ⟨(some 40), (.mv (.t 43)), none⟩,
      ⟨(some 44), (.ext (.t 40) 0), none⟩,
      ⟨(some 45), (.ext (.t 40) 1), none⟩,
      ⟨(some 15), (.alloc [(I 0), (I 0), (I 0), (I 0)]), none⟩,
      ⟨none, (.store 4 (.t 15) (.t 44)), none⟩,
      ⟨(some 16), (.mv (.t 45)), none⟩])
    (.seq (.seq (.ops [⟨(some 46), (.mv (.t 16)), none⟩,
      ⟨(some 47), (.un .not (.t 46)), none⟩,
      ⟨(some 48), (.mv (.t 47)), none⟩,
      ⟨(some 49), (.mv (.t 11)), (some (48, false))⟩,
      ⟨(some 50), (.load true 4 (.t 15)), (some (48, false))⟩,
      ⟨(some 51), (.call (.k (.fn (.func 73) [] [])) [(.t 49), (.t 50)]), (some (48, false))⟩,
      ⟨(some 52), (.un .not (.t 51)), (some (48, false))⟩,
      ⟨(some 53), (.pick (.t 48) (.k (B true)) (.t 52)), none⟩,
      ⟨(some 54), (.mv (.t 53)), none⟩,
      ⟨(some 55), (.load true 4 (.t 15)), (some (54, false))⟩,
      ⟨(some 56), (.load true 4 (.t 10)), (some (54, false))⟩,
      ⟨(some 57), (.call (.k (.fn (.func 65) [] [])) [(.t 55), (.t 56)]), (some (54, false))⟩,
      ⟨(some 58), (.un .not (.t 57)), (some (54, false))⟩,
      ⟨(some 59), (.pick (.t 54) (.k (B true)) (.t 58)), none⟩])
    (.cond (.t 59)
      (.seq (.ops [⟨(some 6), (.mv (.k (B false))), none⟩,
        ⟨(some 7), (.mv (.k (I 0))), none⟩])
      .ret)
      .skip))
    (.seq (.ops [⟨(some 60), (.load true 4 (.t 12)), none⟩,
      ⟨(some 61), (.load true 4 (.t 15)), none⟩,
      ⟨(some 62), (.call (.k (.fn (.func 68) [] [])) [(.t 60), (.k (I 1)), (.t 61)]), none⟩,
      ⟨none, (.store 4 (.t 12) (.t 62)), none⟩])
    (.seq (.ops [⟨(some 63), (.load true 4 (.t 12)), none⟩,
      ⟨(some 64), (.load true 4 (.t 10)), none⟩,
      ⟨(some 65), (.call (.k (.fn (.func 65) [] [])) [(.t 63), (.t 64)]), none⟩,
      ⟨(some 66), (.un .not (.t 65)), none⟩])
    (.cond (.t 66)
      (.seq (.ops [⟨(some 6), (.mv (.k (B false))), none⟩,
        ⟨(some 7), (.mv (.k (I 0))), none⟩])
      .ret)
      .skip)))))))
    (.ops [⟨(some 67), (.bin .add (.t 36) (.k (I 1))), none⟩,
      ⟨(some 36), (.mv (.t 67)), none⟩])))) ks fr H ms := rfl
def c53 : ICode :=
  (.seq (.ops [⟨(some 6), (.mv (.k (B false))), none⟩,
    ⟨(some 7), (.mv (.k (I 0))), none⟩])
  (.seq (.ops [⟨(some 18), (.mv (.t 0)), none⟩,
    ⟨(some 19), (.call (.k (.fn (.func 62) [] [])) [(.t 18)]), none⟩,
    ⟨(some 17), (.mv (.t 19)), none⟩,
    ⟨(some 20), (.ext (.t 17) 0), none⟩,
    ⟨(some 21), (.ext (.t 17) 1), none⟩,
    ⟨(some 8), (.alloc [nilSl, (I 0)]), none⟩,
    ⟨none, (.store 2 (.t 8) (.t 20)), none⟩,
    ⟨(some 9), (.mv (.t 21)), none⟩])
  (.seq (.seq (.ops [⟨(some 22), (.mv (.t 9)), none⟩,
    ⟨(some 23), (.un .not (.t 22)), none⟩])
  (.cond (.t 23)
    (.seq (.ops [⟨(some 6), (.mv (.k (B false))), none⟩,
      ⟨(some 7), (.mv (.k (I 2))), none⟩])
    .ret)
    .skip))
  (.seq (.ops [⟨(some 25), (.load true 2 (.t 8)), none⟩,
    ⟨(some 26), (.mv (.t 1)), none⟩,
    ⟨(some 27), (.call (.k (.fn (.func 63) [] [])) [(.t 25), (.t 26), (.k (I (-100))), (.k (I 100))]), none⟩,
    ⟨(some 24), (.mv (.t 27)), none⟩,
    ⟨(some 28), (.ext (.t 24) 0), none⟩,
    ⟨(some 29), (.ext (.t 24) 1), none⟩,
    ⟨(some 10), (.alloc [(I 0), (I 0), (I 0), (I 0)]), none⟩,
    ⟨none, (.store 4 (.t 10) (.t 28)), none⟩,
    ⟨(some 9), (.mv (.t 29)), none⟩])
  (.seq (.seq (.ops [⟨(some 30), (.mv (.t 9)), none⟩,
    ⟨(some 31), (.un .not (.t 30)), none⟩])
  (.cond (.t 31)
    (.seq (.ops [⟨(some 6), (.mv (.k (B false))), none⟩,
      ⟨(some 7), (.mv (.k (I 2))), none⟩])
    .ret)
    .skip))
  (.seq (.ops [⟨(some 32), (.load true 2 (.t 8)), none⟩,
    ⟨(some 33), (.call (.k (.fn (.func 85) [] [])) [(.t 32)]), none⟩,
    ⟨(some 11), (.mv (.t 33)), none⟩])
  (.seq (.ops [⟨(some 12), (.alloc [(I 0), (I 0), (I 0), (I 0)]), none⟩])
  (.seq (.seq (.ops [⟨(some 34), (.mv (.t 2)), none⟩,
    ⟨(some 35), (.len (.t 34)), none⟩,
    ⟨(some 36), (.mv (.k (I 0))), none⟩])
  (.block 0 (.loop c53L0)))
  c53T1))))))))
theorem w53 {x : Cx} {Q : QT} {ks : List Kont} {fr : Fr} {H : AHeap} {ms : List Nat} : W x Q c53 ks fr H ms = W x Q (.seq (.ops [⟨(some 6), (.mv (.k (B false))), none⟩,
      ⟨(some 7), (.mv (.k (I 0))), none⟩])
    (.seq (.ops [⟨(some 18), (.mv (.t 0)), none⟩,
      ⟨(some 19), (.call (.k (.fn (.func 62) [] [])) [(.t 18)]), none⟩,
      ⟨(some 17), (.mv (.t 19)), none⟩,
      ⟨(some 20), (.ext (.t 17) 0), none⟩,
      ⟨(some 21), (.ext (.t 17) 1), none⟩,
      ⟨(some 8), (.alloc [nilSl, (I 0)]), none⟩,
      ⟨none, (.store 2 (.t 8) (.t 20)), none⟩,
      ⟨(some 9), (.mv (.t 21)), none⟩])
    (.seq (.seq (.ops [⟨(some 22), (.mv (.t 9)), none⟩,
      ⟨(some 23), (.un .not (.t 22)), none⟩])
    (.cond (.t 23)
      (.seq (.ops [⟨(some 6), (.mv (.k (B false))), none⟩,
        ⟨(some 7), (.mv (.k (I 2))), none⟩])
      .ret)
      .skip))
    (.seq (.ops [⟨(some 25), (.load true 2 (.t 8)), none⟩,
      ⟨(some 26), (.mv (.t 1)), none⟩,
      ⟨(some 27), (.call (.k (.fn (.func 63) [] [])) [(.t 25), (.t 26), (.k (I (-100))), (.k (I 100))]), none⟩,
      ⟨(some 24), (.mv (.t 27)), none⟩,
      ⟨(some 28), (.ext (.t 24) 0), none⟩,
      ⟨(some 29), (.ext (.t 24) 1), none⟩,
      ⟨(some 10), (.alloc [(I 0), (I 0), (I 0), (I 0)]), none⟩,
      ⟨none, (.store 4 (.t 10) (.t 28)), none⟩,
      ⟨(some 9), (.mv (.t 29)), none⟩])
    (.seq (.seq (.ops [⟨(some 30), (.mv (.t 9)), none⟩,
      ⟨(some 31), (.un .not (.t 30)), none⟩])
    (.cond (.t 31)
      (.seq (.ops [⟨(some 6), (.mv (.k (B false))), none⟩,
        ⟨(some 7), (.mv (.k (I 2))), none⟩])
      .ret)
      .skip))
    (.seq (.ops [⟨(some 32), (.load true 2 (.t 8)), none⟩,
      ⟨(some 33), (.call (.k (.fn (.func 85) [] [])) [(.t 32)]), none⟩,
      ⟨(some 11), (.mv (.t 33)), none⟩])
    (.seq (.ops [⟨(some 12), (.alloc [(I 0), (I 0), (I 0), (I 0)]), none⟩])
    (.seq (.seq (.ops [⟨(some 34), (.mv (.t 2)), none⟩,
      ⟨(some 35), (.len (.t 34)), none⟩,
      ⟨(some 36), (.mv (.k (I 0))), none⟩])
    (.block 0 (.loop c53L0)))
    c53T1)))))))) ks fr H ms := rfl
def r53 : List IRes := [(.tmp 6), (.tmp 7)]
theorem t53 : Try.f53.body.bind (trCode Try.prog Try.f53.ntmps) = some (strip c53) := by kernel_rfl
theorem q53 : trRes Try.prog Try.f53.results.toList = some r53 := by kernel_rfl
theorem fn53 : Try.prog.funcs[53]? = some Try.f53 := by kernel_rfl
theorem nn53 : (Try.f53.name == "runtime.NumGoroutine") = false := by kernel_rfl
theorem nt53 : Try.f53.ntmps = 71 := by kernel_rfl
def c56 : ICode :=
  (.seq (.ops [⟨(some 2), (.mv (.k (B false))), none⟩])
  (.seq (.ops [⟨(some 3), (.mv (.t 0)), none⟩,
    ⟨(some 4), (.bin .neq (.t 3) (.k (I 0))), none⟩,
    ⟨(some 2), (.mv (.t 4)), none⟩])
  .ret))
theorem w56 {x : Cx} {Q : QT} {ks : List Kont} {fr : Fr} {H : AHeap} {ms : List Nat} : W x Q c56 ks fr H ms = W x Q (.seq (.ops [⟨(some 2), (.mv (.k (B false))), none⟩])
    (.seq (.ops [⟨(some 3), (.mv (.t 0)), none⟩,
      ⟨(some 4), (.bin .neq (.t 3) (.k (I 0))), none⟩,
      ⟨(some 2), (.mv (.t 4)), none⟩])
    .ret)) ks fr H ms := rfl
def r56 : List IRes := [(.tmp 2)]
theorem t56 : Try.f56.body.bind (trCode Try.prog Try.f56.ntmps) = some (strip c56) := by kernel_rfl
theorem q56 : trRes Try.prog Try.f56.results.toList = some r56 := by kernel_rfl
theorem fn56 : Try.prog.funcs[56]? = some Try.f56 := by kernel_rfl
theorem nn56 : (Try.f56.name == "runtime.NumGoroutine") = false := by kernel_rfl
theorem nt56 : Try.f56.ntmps = 5 := by kernel_rfl
def c57 : ICode :=
  (.seq (.ops [⟨(some 3), (.mv (.k (B false))), none⟩])
  (.seq (.ops [⟨(some 4), (.load false 1 (.t 1)), none⟩,
    ⟨(some 5), (.mv (.t 0)), none⟩,
    ⟨(some 6), (.call (.k (.fn (.func 22) [] [])) [(.t 4), (.t 5)]), none⟩,
    ⟨(some 3), (.mv (.t 6)), none⟩])
  .ret))
theorem w57 {x : Cx} {Q : QT} {ks : List Kont} {fr : Fr} {H : AHeap} {ms : List Nat} : W x Q c57 ks fr H ms = W x Q (.seq (.ops [⟨(some 3), (.mv (.k (B false))), none⟩])
    (.seq (.ops [⟨(some 4), (.load false 1 (.t 1)), none⟩,
      ⟨(some 5), (.mv (.t 0)), none⟩,
      ⟨(some 6), (.call (.k (.fn (.func 22) [] [])) [(.t 4), (.t 5)]), none⟩,
      ⟨(some 3), (.mv (.t 6)), none⟩])
    .ret)) ks fr H ms := rfl
def r57 : List IRes := [(.tmp 3)]
theorem t57 : Try.f57.body.bind (trCode Try.prog Try.f57.ntmps) = some (strip c57) := by kernel_rfl
theorem q57 : trRes Try.prog Try.f57.results.toList = some r57 := by kernel_rfl
theorem fn57 : Try.prog.funcs[57]? = some Try.f57 := by kernel_rfl
theorem nn57 : (Try.f57.name == "runtime.NumGoroutine") = false := by kernel_rfl
theorem nt57 : Try.f57.ntmps = 7 := by kernel_rfl
def c68T1 : ICode :=
  (.keep [3, 6] (.seq (.ops [⟨(some 22), (.load true 4 (.t 3)), none⟩,
    ⟨none, (.store 4 (.t 6) (.t 22)), none⟩])
  .ret))
theorem w68T1 {x : Cx} {Q : QT} {ks : List Kont} {fr : Fr} {H : AHeap} {ms : List Nat} : W x Q c68T1 ks fr H ms = W x Q (.keep [3, 6] (.seq (.ops [⟨(some 22), (.load true 4 (.t 3)), none⟩,
      ⟨none, (.store 4 (.t 6) (.t 22)), none⟩])
    .ret)) ks fr H ms := rfl
/- live: [1, 3, 5, 6, 8] -/
def c68L0 : ICode :=
  (.seq (.ops [⟨(some 9), (.bin .lss (.t 8) (.k (I 4))), none⟩])
  (.seq (.cond (.t 9)
    .skip
    (.exit 0))
  (.seq (.block 1 (.seq (.ops [⟨(some 10), (.mv (.t 8)), none⟩,
    ⟨(some 7), (.mv (.t 10)), none⟩])
  (.draw 0 [] (.early 1 ⟨(some 11), (.mv (.t 7)), none⟩
    (.early 1 ⟨(some 12), (.ixP 4 1 (.t 3) (.t 11)), none⟩
    (.early 1 ⟨(some 13), (.load false 1 (.t 12)), none⟩
    (.early 1 ⟨(some 14), (.mv (.t 1)), none⟩
    (.early 1 ⟨(some 15), (.mv (.t 7)), none⟩
    (.early 1 ⟨(some 16), (.ixP 4 1 (.t 5) (.t 15)), none⟩
    (.early 1 ⟨(some 17), (.load false 1 (.t 16)), none⟩
    (.early 1 ⟨(some 18), (.bin .mul (.t 14) (.t 17)), none⟩
    (.early 0 ⟨(some 19), (.bin .add (.t 13) (.t 18)), none⟩
    (.early 0 ⟨(some 20), (.ixP 4 1 (.t 3) (.t 11)), none⟩
    (.step 0 0 ⟨none, (.store 1 (.t 20) (.t 19)), none⟩
    .done))))))))))))))
  (.ops [⟨(some 21), (.bin .add (.t 8) (.k (I 1))), none⟩,
    ⟨(some 8), (.mv (.t 21)), none⟩]))))
theorem w68L0 {x : Cx} {Q : QT} {ks : List Kont} {fr : Fr} {H : AHeap} {ms : List Nat} : W x Q c68L0 ks fr H ms = W x Q (.seq (.ops [⟨(some 9), (.bin .lss (.t 8) (.k (I 4))), none⟩])
    (.seq (.cond (.t 9)
      .skip
      (.exit 0))
    (.seq (.block 1 (.seq (.ops [⟨(some 10), (.mv (.t 8)), none⟩,
      ⟨(some 7), (.mv (.t 10)), none⟩])
    (.draw 0 [] (.early 1 ⟨(some 11), (.mv (.t 7)), none⟩
      (.early 1 ⟨(some 12), (.ixP 4 1 (.t 3) (.t 11)), none⟩
      (.early 1 ⟨(some 13), (.load false 1 (.t 12)), none⟩
      (.early 1 ⟨(some 14), (.mv (.t 1)), none⟩
      (.early 1 ⟨(some 15), (.mv (.t 7)), none⟩
      (.early 1 ⟨(some 16), (.ixP 4 1 (.t 5) (.t 15)), none⟩
      (.early 1 ⟨(some 17), (.load false 1 (.t 16)), none⟩
      (.early 1 ⟨(some 18), (.bin .mul (.t 14) (.t 17)), none⟩
      (.early 0 ⟨(some 19), (.bin .add (.t 13) (.t 18)), none⟩
      (.early 0 ⟨(some 20), (.ixP 4 1 (.t 3) (.t 11)), none⟩
      (.step 0 0 ⟨none, (.store 1 (.t 20) (.t 19)), none⟩
      .done))))))))))))))
    (.ops [⟨(some 21), (.bin .add (.t 8) (.k (I 1))), none⟩,
      ⟨(some 8), (.mv (.t 21)), none⟩])))) ks fr H ms := rfl
def c68 : ICode :=
  (.seq (.ops [⟨(some 3), (.box (.t 0)), none⟩,
    ⟨(some 5), (.box (.t 2)), none⟩,
    ⟨(some 6), (.alloc [(I 0), (I 0), (I 0), (I 0)]), none⟩])
  (.seq (.seq (.ops [⟨(some 8), (.mv (.k (I 0))), none⟩])
  (.block 0 (.loop c68L0)))
  c68T1))
theorem w68 {x : Cx} {Q : QT} {ks : List Kont} {fr : Fr} {H : AHeap} {ms : List Nat} : W x Q c68 ks fr H ms = W x Q (.seq (.ops [⟨(some 3), (.box (.t 0)), none⟩,
      ⟨(some 5), (.box (.t 2)), none⟩,
      ⟨(some 6), (.alloc [(I 0), (I 0), (I 0), (I 0)]), none⟩])
    (.seq (.seq (.ops [⟨(some 8), (.mv (.k (I 0))), none⟩])
    (.block 0 (.loop c68L0)))
    c68T1)) ks fr H ms := rfl
def r68 : List IRes := [(.cell true 4 6)]
theorem t68 : Try.f68.body.bind (trCode Try.prog Try.f68.ntmps) = some (strip c68) := by kernel_rfl
theorem q68 : trRes Try.prog Try.f68.results.toList = some r68 := by kernel_rfl
theorem fn68 : Try.prog.funcs[68]? = some Try.f68 := by kernel_rfl
theorem nn68 : (Try.f68.name == "runtime.NumGoroutine") = false := by kernel_rfl
theorem nt68 : Try.f68.ntmps = 23 := by kernel_rfl
def c73 : ICode :=
  (.seq (.ops [⟨(some 3), (.box (.t 1)), none⟩,
    ⟨(some 4), (.mv (.k (B false))), none⟩])
  (.seq (.ops [⟨(some 5), (.mv (.t 0)), none⟩,
    ⟨(some 6), (.load true 4 (.t 3)), none⟩,
    ⟨(some 7), (.call (.k (.fn (.func 107) [] [])) [(.t 5), (.t 6)]), none⟩,
    ⟨(some 8), (.bin .geq (.t 7) (.k (I 0))), none⟩,
    ⟨(some 4), (.mv (.t 8)), none⟩])
  .ret))
theorem w73 {x : Cx} {Q : QT} {ks : List Kont} {fr : Fr} {H : AHeap} {ms : List Nat} : W x Q c73 ks fr H ms = W x Q (.seq (.ops [⟨(some 3), (.box (.t 1)), none⟩,
      ⟨(some 4), (.mv (.k (B false))), none⟩])
    (.seq (.ops [⟨(some 5), (.mv (.t 0)), none⟩,
      ⟨(some 6), (.load true 4 (.t 3)), none⟩,
      ⟨(some 7), (.call (.k (.fn (.func 107) [] [])) [(.t 5), (.t 6)]), none⟩,
      ⟨(some 8), (.bin .geq (.t 7) (.k (I 0))), none⟩,
      ⟨(some 4), (.mv (.t 8)), none⟩])
    .ret)) ks fr H ms := rfl
def r73 : List IRes := [(.tmp 4)]
theorem t73 : Try.f73.body.bind (trCode Try.prog Try.f73.ntmps) = some (strip c73) := by kernel_rfl
theorem q73 : trRes Try.prog Try.f73.results.toList = some r73 := by kernel_rfl
theorem fn73 : Try.prog.funcs[73]? = some Try.f73 := by kernel_rfl
theorem nn73 : (Try.f73.name == "runtime.NumGoroutine") = false := by kernel_rfl
theorem nt73 : Try.f73.ntmps = 9 := by kernel_rfl
def c97 : ICode :=
  (.seq (.ops [⟨(some 2), (.box (.t 0)), none⟩,
    ⟨(some 3), (.mv (.k (B false))), none⟩])
  (.seq (.ops [⟨(some 4), (.load true 4 (.t 2)), none⟩,
    ⟨(some 5), (.load true 4 (.t 1)), none⟩,
    ⟨(some 6), (.call (.k (.fn (.func 65) [] [])) [(.t 4), (.t 5)]), none⟩,
    ⟨(some 3), (.mv (.t 6)), none⟩])
  .ret))
theorem w97 {x : Cx} {Q : QT} {ks : List Kont} {fr : Fr} {H : AHeap} {ms : List Nat} : W x Q c97 ks fr H ms = W x Q (.seq (.ops [⟨(some 2), (.box (.t 0)), none⟩,
      ⟨(some 3), (.mv (.k (B false))), none⟩])
    (.seq (.ops [⟨(some 4), (.load true 4 (.t 2)), none⟩,
      ⟨(some 5), (.load true 4 (.t 1)), none⟩,
      ⟨(some 6), (.call (.k (.fn (.func 65) [] [])) [(.t 4), (.t 5)]), none⟩,
      ⟨(some 3), (.mv (.t 6)), none⟩])
    .ret)) ks fr H ms := rfl
def r97 : List IRes := [(.tmp 3)]
theorem t97 : Try.f97.body.bind (trCode Try.prog Try.f97.ntmps) = some (strip c97) := by kernel_rfl
theorem q97 : trRes Try.prog Try.f97.results.toList = some r97 := by kernel_rfl
theorem fn97 : Try.prog.funcs[97]? = some Try.f97 := by kernel_rfl
theorem nn97 : (Try.f97.name == "runtime.NumGoroutine") = false := by kernel_rfl
theorem nt97 : Try.f97.ntmps = 7 := by kernel_rfl
def c107T1 : ICode :=
  (.keep [] (.seq (.ops [⟨(some 4), (.mv (.k (I (-1)))), none⟩])
  .ret))
theorem w107T1 {x : Cx} {Q : QT} {ks : List Kont} {fr : Fr} {H : AHeap} {ms : List Nat} : W x Q c107T1 ks fr H ms = W x Q (.keep [] (.seq (.ops [⟨(some 4), (.mv (.k (I (-1)))), none⟩])
    .ret)) ks fr H ms := rfl
/- live: [0, 3, 7, 8] -/
def c107L0 : ICode :=
  (.seq (.ops [⟨(some 9), (.bin .lss (.t 8) (.t 7)), none⟩])
  (.seq (.cond (.t 9)
    .skip
    (.exit 0))
  (.seq (.block 1 (.seq (.ops [⟨(some 10), (.mv (.t 8)), none⟩,
    ⟨(some 5), (.mv (.t 10)), none⟩])
  (.seq (.draw 0 [] (.early 1 ⟨(some 11), (.load true 4 (.t 3)), none⟩
    (.early 1 ⟨(some 12), (.mv (.t 0)), none⟩
    (.early 1 ⟨(some 13), (.mv (.t 5)), none⟩
    (.early 1 ⟨(some 14), (.ixS 4 (.t 12) (.t 13)), none⟩
    (.early 1 ⟨(some 15), (.load true 4 (.t 14)), none⟩
    (.early 0 ⟨(some 16), (.eqv false 4 (.t 11) (.t 15)), none⟩
    .done)))))))
  (.keep [0, 3, 5, 7, 8, 16] (.cond (.t 16)
    (.seq (.ops [⟨(some 17), (.mv (.t 5)), none⟩,
      ⟨(some 4), (.mv (.t 17)), none⟩])
    .ret)
    .skip)))))
  (.ops [⟨(some 18), (.bin .add (.t 8) (.k (I 1))), none⟩,
    ⟨(some 8), (.mv (.t 18)), none⟩]))))
theorem w107L0 {x : Cx} {Q : QT} {ks : List Kont} {fr : Fr} {H : AHeap} {ms : List Nat} : W x Q c107L0 ks fr H ms = W x Q (.seq (.ops [⟨(some 9), (.bin .lss (.t 8) (.t 7)), none⟩])
    (.seq (.cond (.t 9)
      .skip
      (.exit 0))
    (.seq (.block 1 (.seq (.ops [⟨(some 10), (.mv (.t 8)), none⟩,
      ⟨(some 5), (.mv (.t 10)), none⟩])
    (.seq (.draw 0 [] (.early 1 ⟨(some 11), (.load true 4 (.t 3)), none⟩
      (.early 1 ⟨(some 12), (.mv (.t 0)), none⟩
      (.early 1 ⟨(some 13), (.mv (.t 5)), none⟩
      (.early 1 ⟨(some 14), (.ixS 4 (.t 12) (.t 13)), none⟩
      (.early 1 ⟨(some 15), (.load true 4 (.t 14)), none⟩
      (.early 0 ⟨(some 16), (.eqv false 4 (.t 11) (.t 15)), none⟩
      .done)))))))
    (.keep [0, 3, 5, 7, 8, 16] (.cond (.t 16)
      (.seq (.ops [⟨(some 17), (.mv (.t 5)), none⟩,
        ⟨(some 4), (.mv (.t 17)), none⟩])
      .ret)
      .skip)))))
    (.ops [⟨(some 18), (.bin .add (.t 8) (.k (I 1))), none⟩,
      ⟨(some 8), (.mv (.t 18)), none⟩])))) ks fr H ms := rfl
def c107 : ICode :=
  (.seq (.ops [⟨(some 3), (.box (.t 1)), none⟩,
    ⟨(some 4), (.mv (.k (I 0))), none⟩])
  (.seq (.seq (.ops [⟨(some 6), (.mv (.t 0)), none⟩,
    ⟨(some 7), (.len (.t 6)), none⟩,
    ⟨(some 8), (.mv (.k (I 0))), none⟩])
  (.block 0 (.loop c107L0)))
  c107T1))
theorem w107 {x : Cx} {Q : QT} {ks : List Kont} {fr : Fr} {H : AHeap} {ms : List Nat} : W x Q c107 ks fr H ms = W x Q (.seq (.ops [⟨(some 3), (.box (.t 1)), none⟩,
      ⟨(some 4), (.mv (.k (I 0))), none⟩])
    (.seq (.seq (.ops [⟨(some 6), (.mv (.t 0)), none⟩,
      ⟨(some 7), (.len (.t 6)), none⟩,
      ⟨(some 8), (.mv (.k (I 0))), none⟩])
    (.block 0 (.loop c107L0)))
    c107T1)) ks fr H ms := rfl
def r107 : List IRes := [(.tmp 4)]
theorem t107 : Try.f107.body.bind (trCode Try.prog Try.f107.ntmps) = some (strip c107) := by kernel_rfl
theorem q107 : trRes Try.prog Try.f107.results.toList = some r107 := by kernel_rfl
theorem fn107 : Try.prog.funcs[107]? = some Try.f107 := by kernel_rfl
theorem nn107 : (Try.f107.name == "runtime.NumGoroutine") = false := by kernel_rfl
theorem nt107 : Try.f107.ntmps = 19 := by kernel_rfl
end Go.Proofs.Ytipfjfmdjmaflaa
