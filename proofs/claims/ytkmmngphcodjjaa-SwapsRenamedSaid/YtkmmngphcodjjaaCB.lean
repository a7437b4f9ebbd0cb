/- The code of some functions of the program, cleaned: printed by a program of mine, checked here. -/
import Derived.Test.YtkmmngphcodjjaaProg
import Derived.Test.YtkmmngphcodjjaaAS
import Derived.KernelRfl
import Derived.Test.YtkmmngphcodjjaaCA
namespace Go.Proofs.Ytkmmngphcodjjaa
open Go.Abs AVal
def c3 : ICode :=
  (.seq (.ops [⟨(some 2), (.mv (.k (B false))), none⟩])
  (.seq (.ops [⟨(some 8), (.mv (.t 0)), none⟩,
    ⟨(some 9), (.call (.k (.fn (.func 16) [] [])) [(.t 8)]), none⟩,
    ⟨(some 10), (.call (.k (.fn (.func 15) [] [])) [(.t 9)]), none⟩,
    ⟨(some 7), (.mv (.t 10)), none⟩,
    ⟨(some 11), (.ext (.t 7) 0), none⟩,
    ⟨(some 12), (.ext (.t 7) 1), none⟩,
    ⟨(some 3), (.mv (.t 11)), none⟩,
    ⟨(some 4), (.mv (.t 12)), none⟩])
  (.seq (.ops [⟨(some 14), (.mv (.t 0)), none⟩,
    ⟨(some 15), (.call (.k (.fn (.func 16) [] [])) [(.t 14)]), none⟩,
    ⟨(some 16), (.call (.k (.fn (.func 17) [] [])) [(.t 15)]), none⟩,
    ⟨(some 13), (.mv (.t 16)), none⟩,
    ⟨(some 17), (.ext (.t 13) 0), none⟩,
    ⟨(some 18), (.ext (.t 13) 1), none⟩,
    ⟨(some 5), (.mv (.t 17)), none⟩,
    ⟨(some 6), (.mv (.t 18)), none⟩])
  (.seq (.seq (.ops [⟨(some 19), (.mv (.t 0)), none⟩,
    ⟨(some 20), (.call (.k (.fn (.func 18) [] [])) [(.t 19)]), none⟩,
    ⟨(some 21), (.un .not (.t 20)), none⟩])
  (.cond (.t 21)
    (.seq (.ops [⟨(some 22), (.mv (.t 3)), none⟩,
      ⟨(some 23), (.len (.t 22)), none⟩,
      ⟨(some 24), (.mv (.t 5)), none⟩,
      ⟨(some 25), (.len (.t 24)), none⟩,
      ⟨(some 26), (.bin .add (.t 23) (.t 25)), none⟩,
      ⟨(some 27), (.bin .eql (.t 26) (.k (I 0))), none⟩,
      ⟨(some 28), (.mv (.t 27)), none⟩,
      ⟨(some 29), (.mv (.t 4)), (some (28, true))⟩,
      ⟨(some 30), (.bin .eql (.t 29) (.k (I 2))), (some (28, true))⟩,
      ⟨(some 31), (.pick (.t 28) (.t 30) (.k (B false))), none⟩,
      ⟨(some 32), (.mv (.t 31)), none⟩,
      ⟨(some 33), (.mv (.t 6)), (some (32, true))⟩,
      ⟨(some 34), (.bin .eql (.t 33) (.k (I 2))), (some (32, true))⟩,
      ⟨(some 35), (.pick (.t 32) (.t 34) (.k (B false))), none⟩,
      ⟨(some 36), (.mv (.t 35)), none⟩,
      ⟨(some 37), (.call (.k (.fn (.func 19) [] [])) []), (some (36, true))⟩,
      ⟨(some 38), (.pick (.t 36) (.t 37) (.k (B false))), none⟩,
      ⟨(some 2), (.mv (.t 38)), none⟩])
    .ret)
    .skip))
  (.seq (.ops [⟨(some 39), (.mv (.t 3)), none⟩,
    ⟨(some 40), (.mv (.t 0)), none⟩,
    ⟨(some 41), (.call (.k (.fn (.func 21) [] [])) [(.t 40)]), none⟩,
    ⟨(some 42), (.call (.k (.fn (.func 20) [] [])) [(.t 39), (.t 41)]), none⟩,
    ⟨(some 43), (.mv (.t 42)), none⟩,
    ⟨(some 44), (.mv (.t 5)), (some (43, true))⟩,
    ⟨(some 45), (.mv (.t 0)), (some (43, true))⟩,
    ⟨(some 46), (.call (.k (.fn (.func 22) [] [])) [(.t 45)]), (some (43, true))⟩,
    ⟨(some 47), (.call (.k (.fn (.func 20) [] [])) [(.t 44), (.t 46)]), (some (43, true))⟩,
    ⟨(some 48), (.pick (.t 43) (.t 47) (.k (B false))), none⟩,
    ⟨(some 49), (.mv (.t 48)), none⟩,
    ⟨(some 50), (.mv (.t 4)), (some (49, true))⟩,
    ⟨(some 51), (.bin .eql (.t 50) (.k (I 0))), (some (49, true))⟩,
    ⟨(some 52), (.pick (.t 49) (.t 51) (.k (B false))), none⟩,
    ⟨(some 53), (.mv (.t 52)), none⟩,
    ⟨(some 54), (.mv (.t 6)), (some (53, true))⟩,
    ⟨(some 55), (.bin .eql (.t 54) (.k (I 0))), (some (53, true))⟩,
    ⟨(some 56), (.pick (.t 53) (.t 55) (.k (B false))), none⟩,
    ⟨(some 57), (.mv (.t 56)), none⟩,
    ⟨(some 58), (.call (.k (.fn (.func 19) [] [])) []), (some (57, true))⟩,
    ⟨(some 59), (.pick (.t 57) (.t 58) (.k (B false))), none⟩,
    ⟨(some 2), (.mv (.t 59)), none⟩])
  .ret)))))
theorem w3 {x : Cx} {Q : QT} {ks : List Kont} {fr : Fr} {H : AHeap} {ms : List Nat} : W x Q c3 ks fr H ms = W x Q (.seq (.ops [⟨(some 2), (.mv (.k (B false))), none⟩])
    (.seq (.ops [⟨(some 8), (.mv (.t 0)), none⟩,
      ⟨(some 9), (.call (.k (.fn (.func 16) [] [])) [(.t 8)]), none⟩,
      ⟨(some 10), (.call (.k (.fn (.func 15) [] [])) [(.t 9)]), none⟩,
      ⟨(some 7), (.mv (.t 10)), none⟩,
      ⟨(some 11), (.ext (.t 7) 0), none⟩,
      ⟨(some 12), (.ext (.t 7) 1), none⟩,
      ⟨(some 3), (.mv (.t 11)), none⟩,
      ⟨(some 4), (.mv (.t 12)), none⟩])
    (.seq (.ops [⟨(some 14), (.mv (.t 0)), none⟩,
      ⟨(some 15), (.call (.k (.fn (.func 16) [] [])) [(.t 14)]), none⟩,
      ⟨(some 16), (.call (.k (.fn (.func 17) [] [])) [(.t 15)]), none⟩,
      ⟨(some 13), (.mv (.t 16)), none⟩,
      ⟨(some 17), (.ext (.t 13) 0), none⟩,
      ⟨(some 18), (.ext (.t 13) 1), none⟩,
      ⟨(some 5), (.mv (.t 17)), none⟩,
      ⟨(some 6), (.mv (.t 18)), none⟩])
    (.seq (.seq (.ops [⟨(some 19), (.mv (.t 0)), none⟩,
      ⟨(some 20), (.call (.k (.fn (.func 18) [] [])) [(.t 19)]), none⟩,
      ⟨(some 21), (.un .not (.t 20)), none⟩])
    (.cond (.t 21)
      (.seq (.ops [⟨(some 22), (.mv (.t 3)), none⟩,
        ⟨(some 23), (.len (.t 22)), none⟩,
        ⟨(some 24), (.mv (.t 5)), none⟩,
        ⟨(some 25), (.len (.t 24)), none⟩,
        ⟨(some 26), (.bin .add (.t 23) (.t 25)), none⟩,
        ⟨(some 27), (.bin .eql (.t 26) (.k (I 0))), none⟩,
        ⟨(some 28), (.mv (.t 27)), none⟩,
        ⟨(some 29), (.mv (.t 4)), (some (28, true))⟩,
        ⟨(some 30), (.bin .eql (.t 29) (.k (I 2))), (some (28, true))⟩,
        ⟨(some 31), (.pick (.t 28) (.t 30) (.k (B false))), none⟩,
        ⟨(some 32), (.mv (.t 31)), none⟩,
        ⟨(some 33), (.mv (.t 6)), (some (32, true))⟩,
        ⟨(some 34), (.bin .eql (.t 33) (.k (I 2))), (some (32, true))⟩,
        ⟨(some 35), (.pick (.t 32) (.t 34) (.k (B false))), none⟩,
        ⟨(some 36), (.mv (.t 35)), none⟩,
        ⟨(some 37), (.call (.k (.fn (.func 19) [] [])) []), (some (36, true))⟩,
        ⟨(some 38), (.pick (.t 36) (.t 37) (.k (B false))), none⟩,
        ⟨(some 2), (.mv (.t 38)), none⟩])
      .ret)
      .skip))
    (.seq (.ops [⟨(some 39), (.mv (.t 3)), none⟩,
      ⟨(some 40), (.mv (.t 0)), none⟩,
      ⟨(some 41), (.call (.k (.fn (.func 21) [] [])) [(.t 40)]), none⟩,
      ⟨(some 42), (.call (.k (.fn (.func 20) [] [])) [(.t 39), (.t 41)]), none⟩,
      ⟨(some 43), (.mv (.t 42)), none⟩,
      ⟨(some 44), (.mv (.t 5)), (some (43, true))⟩,
      ⟨(some 45), (.mv (.t 0)), (some (43, true))⟩,
      ⟨(some 46), (.call (.k (.fn (.func 22) [] [])) [(.t 45)]), (some (43, true))⟩,
      ⟨(some 47), (.call (.k (.fn (.func 20) [] [])) [(.t 44), (.t 46)]), (some (43, true))⟩,
      ⟨(some 48), (.pick (.t 43) (.t 47) (.k (B false))), none⟩,
      ⟨(some 49), (.mv (.t 48)), none⟩,
      ⟨(some 50), (.mv (.t 4)), (some (49, true))⟩,
      ⟨(some 51), (.bin .eql (.t 50) (.k (I 0))), (some (49, true))⟩,
      ⟨(some 52), (.pick (.t 49) (.t 51) (.k (B false))), none⟩,
      ⟨(some 53), (.mv (.t 52)), none⟩,
      ⟨(some 54), (.mv (.t 6)), (some (53, true))⟩,
      ⟨(some 55), (.bin .eql (.t 54) (.k (I 0))), (some (53, true))⟩,
      ⟨(some 56), (.pick (.t 53) (.t 55) (.k (B false))), none⟩,
      ⟨(some 57), (.mv (.t 56)), none⟩,
      ⟨(some 58), (.call (.k (.fn (.func 19) [] [])) []), (some (57, true))⟩,
      ⟨(some 59), (.pick (.t 57) (.t 58) (.k (B false))), none⟩,
      ⟨(some 2), (.mv (.t 59)), none⟩])
    .ret))))) ks fr H ms := rfl
def r3 : List IRes := [(.tmp 2)]
theorem t3 : Try.f3.body.bind (trCode Try.prog Try.f3.ntmps) = some (strip c3) := by kernel_rfl
theorem q3 : trRes Try.prog Try.f3.results.toList = some r3 := by kernel_rfl
theorem fn3 : Try.prog.funcs[3]? = some Try.f3 := by kernel_rfl
theorem nn3 : (Try.f3.name == "runtime.NumGoroutine") = false := by kernel_rfl
theorem nt3 : Try.f3.ntmps = 60 := by kernel_rfl
end Go.Proofs.Ytkmmngphcodjjaa

namespace Go.Proofs.Ytkmmngphcodjjaa
open Go.Abs AVal
def c58T1 : ICode :=
  (.keep [] (.seq (.ops [⟨(some 4), (.mv (.k (I (-1)))), none⟩])
  .ret))
theorem w58T1 {x : Cx} {Q : QT} {ks : List Kont} {fr : Fr} {H : AHeap} {ms : List Nat} : W x Q c58T1 ks fr H ms = W x Q (.keep [] (.seq (.ops [⟨(some 4), (.mv (.k (I (-1)))), none⟩])
    .ret)) ks fr H ms := rfl
/- live: [0, 1, 7, 8] -/
def c58L0 : ICode :=
  (.seq (.ops [⟨(some 9), (.bin .lss (.t 8) (.t 7)), none⟩])
  (.seq (.cond (.t 9)
    .skip
    (.exit 0))
  (.seq (.block 1 (.seq (.ops [⟨(some 10), (.mv (.t 8)), none⟩,
    ⟨(some 5), (.mv (.t 10)), none⟩])
  (.seq (.ops [⟨(some 11), (.mv (.t 1)), none⟩,
    ⟨(some 12), (.mv (.t 0)), none⟩,
    ⟨(some 13), (.mv (.t 5)), none⟩,
    ⟨(some 14), (.ixS 1 (.t 12) (.t 13)), none⟩,
    ⟨(some 15), (.load false 1 (.t 14)), none⟩,
    ⟨(some 16), (.bin .eql (.t 11) (.t 15)), none⟩])
  (.cond (.t 16)
    (.seq (.ops [⟨(some 17), (.mv (.t 5)), none⟩,
      ⟨(some 4), (.mv (.t 17)), none⟩])
    .ret)
    .skip))))
  (.ops [⟨(some 18), (.bin .add (.t 8) (.k (I 1))), none⟩,
    ⟨(some 8), (.mv (.t 18)), none⟩]))))
theorem w58L0 {x : Cx} {Q : QT} {ks : List Kont} {fr : Fr} {H : AHeap} {ms : List Nat} : W x Q c58L0 ks fr H ms = W x Q (.seq (.ops [⟨(some 9), (.bin .lss (.t 8) (.t 7)), none⟩])
    (.seq (.cond (.t 9)
      .skip
      (.exit 0))
    (.seq (.block 1 (.seq (.ops [⟨(some 10), (.mv (.t 8)), none⟩,
      ⟨(some 5), (.mv (.t 10)), none⟩])
    (.seq (.ops [⟨(some 11), (.mv (.t 1)), none⟩,
      ⟨(some 12), (.mv (.t 0)), none⟩,
      ⟨(some 13), (.mv (.t 5)), none⟩,
      ⟨(some 14), (.ixS 1 (.t 12) (.t 13)), none⟩,
      ⟨(some 15), (.load false 1 (.t 14)), none⟩,
      ⟨(some 16), (.bin .eql (.t 11) (.t 15)), none⟩])
    (.cond (.t 16)
      (.seq (.ops [⟨(some 17), (.mv (.t 5)), none⟩,
        ⟨(some 4), (.mv (.t 17)), none⟩])
      .ret)
      .skip))))
    (.ops [⟨(some 18), (.bin .add (.t 8) (.k (I 1))), none⟩,
      ⟨(some 8), (.mv (.t 18)), none⟩])))) ks fr H ms := rfl
def c58 : ICode :=
  (.seq (.ops [⟨(some 4), (.mv (.k (I 0))), none⟩])
  (.seq (.seq (.ops [⟨(some 6), (.mv (.t 0)), none⟩,
    ⟨(some 7), (.len (.t 6)), none⟩,
    ⟨(some 8), (.mv (.k (I 0))), none⟩])
  (.block 0 (.loop c58L0)))
  c58T1))
theorem w58 {x : Cx} {Q : QT} {ks : List Kont} {fr : Fr} {H : AHeap} {ms : List Nat} : W x Q c58 ks fr H ms = W x Q (.seq (.ops [⟨(some 4), (.mv (.k (I 0))), none⟩])
    (.seq (.seq (.ops [⟨(some 6), (.mv (.t 0)), none⟩,
      ⟨(some 7), (.len (.t 6)), none⟩,
      ⟨(some 8), (.mv (.k (I 0))), none⟩])
    (.block 0 (.loop c58L0)))
    c58T1)) ks fr H ms := rfl
def r58 : List IRes := [(.tmp 4)]
theorem t58 : Try.f58.body.bind (trCode Try.prog Try.f58.ntmps) = some (strip c58) := by kernel_rfl
theorem q58 : trRes Try.prog Try.f58.results.toList = some r58 := by kernel_rfl
theorem fn58 : Try.prog.funcs[58]? = some Try.f58 := by kernel_rfl
theorem nn58 : (Try.f58.name == "runtime.NumGoroutine") = false := by kernel_rfl
theorem nt58 : Try.f58.ntmps = 19 := by kernel_rfl
def c25 : ICode :=
  (.seq (.ops [⟨(some 4), (.mv (.k (B false))), none⟩])
  (.seq (.ops [⟨(some 5), (.mv (.t 0)), none⟩,
    ⟨(some 6), (.mv (.t 1)), none⟩,
    ⟨(some 7), (.call (.k (.fn (.func 58) [] [])) [(.t 5), (.t 6)]), none⟩,
    ⟨(some 8), (.bin .geq (.t 7) (.k (I 0))), none⟩,
    ⟨(some 4), (.mv (.t 8)), none⟩])
  .ret))
theorem w25 {x : Cx} {Q : QT} {ks : List Kont} {fr : Fr} {H : AHeap} {ms : List Nat} : W x Q c25 ks fr H ms = W x Q (.seq (.ops [⟨(some 4), (.mv (.k (B false))), none⟩])
    (.seq (.ops [⟨(some 5), (.mv (.t 0)), none⟩,
      ⟨(some 6), (.mv (.t 1)), none⟩,
      ⟨(some 7), (.call (.k (.fn (.func 58) [] [])) [(.t 5), (.t 6)]), none⟩,
      ⟨(some 8), (.bin .geq (.t 7) (.k (I 0))), none⟩,
      ⟨(some 4), (.mv (.t 8)), none⟩])
    .ret)) ks fr H ms := rfl
def r25 : List IRes := [(.tmp 4)]
theorem t25 : Try.f25.body.bind (trCode Try.prog Try.f25.ntmps) = some (strip c25) := by kernel_rfl
theorem q25 : trRes Try.prog Try.f25.results.toList = some r25 := by kernel_rfl
theorem fn25 : Try.prog.funcs[25]? = some Try.f25 := by kernel_rfl
theorem nn25 : (Try.f25.name == "runtime.NumGoroutine") = false := by kernel_rfl
theorem nt25 : Try.f25.ntmps = 9 := by kernel_rfl
def c24T1 : ICode :=
  (.keep [7] (.seq (.ops [⟨(some 19), (.mv (.t 7)), none⟩,
    ⟨(some 6), (.mv (.t 19)), none⟩])
  .ret))
theorem w24T1 {x : Cx} {Q : QT} {ks : List Kont} {fr : Fr} {H : AHeap} {ms : List Nat} : W x Q c24T1 ks fr H ms = W x Q (.keep [7] (.seq (.ops [⟨(some 19), (.mv (.t 7)), none⟩,
      ⟨(some 6), (.mv (.t 19)), none⟩])
    .ret)) ks fr H ms := rfl
/- live: [0, 1, 2, 7] -/
def c24L0 : ICode :=
  (.seq (.seq (.ops [⟨(some 8), (.mv (.t 0)), none⟩,
    ⟨(some 9), (.mv (.t 1)), none⟩,
    ⟨(some 10), (.ixS 1 (.t 8) (.t 9)), none⟩,
    ⟨(some 11), (.load false 1 (.t 10)), none⟩,
    ⟨(some 12), (.mv (.t 7)), none⟩,
    ⟨(some 13), (.ixS 1 (.t 11) (.t 12)), none⟩,
    ⟨(some 14), (.load false 1 (.t 13)), none⟩,
    ⟨(some 15), (.mv (.t 2)), none⟩,
    ⟨(some 16), (.bin .neq (.t 14) (.t 15)), none⟩])
  (.cond (.t 16)
    .skip
    (.exit 0)))
  (.block 1 (.ops [⟨(some 17), (.mv (.t 7)), none⟩,
    ⟨(some 18), (.bin .add (.t 17) (.k (I 1))), none⟩,
    ⟨(some 7), (.mv (.t 18)), none⟩])))
theorem w24L0 {x : Cx} {Q : QT} {ks : List Kont} {fr : Fr} {H : AHeap} {ms : List Nat} : W x Q c24L0 ks fr H ms = W x Q (.seq (.seq (.ops [⟨(some 8), (.mv (.t 0)), none⟩,
      ⟨(some 9), (.mv (.t 1)), none⟩,
      ⟨(some 10), (.ixS 1 (.t 8) (.t 9)), none⟩,
      ⟨(some 11), (.load false 1 (.t 10)), none⟩,
      ⟨(some 12), (.mv (.t 7)), none⟩,
      ⟨(some 13), (.ixS 1 (.t 11) (.t 12)), none⟩,
      ⟨(some 14), (.load false 1 (.t 13)), none⟩,
      ⟨(some 15), (.mv (.t 2)), none⟩,
      ⟨(some 16), (.bin .neq (.t 14) (.t 15)), none⟩])
    (.cond (.t 16)
      .skip
      (.exit 0)))
    (.block 1 (.ops [⟨(some 17), (.mv (.t 7)), none⟩,
      ⟨(some 18), (.bin .add (.t 17) (.k (I 1))), none⟩,
      ⟨(some 7), (.mv (.t 18)), none⟩]))) ks fr H ms := rfl
def c24 : ICode :=
  (.seq (.ops [⟨(some 6), (.mv (.k (I 0))), none⟩])
  (.seq (.ops [⟨(some 7), (.mv (.k (I 0))), none⟩])
  (.seq (.block 0 (.loop c24L0))
  c24T1)))
theorem w24 {x : Cx} {Q : QT} {ks : List Kont} {fr : Fr} {H : AHeap} {ms : List Nat} : W x Q c24 ks fr H ms = W x Q (.seq (.ops [⟨(some 6), (.mv (.k (I 0))), none⟩])
    (.seq (.ops [⟨(some 7), (.mv (.k (I 0))), none⟩])
    (.seq (.block 0 (.loop c24L0))
    c24T1))) ks fr H ms := rfl
def r24 : List IRes := [(.tmp 6)]
theorem t24 : Try.f24.body.bind (trCode Try.prog Try.f24.ntmps) = some (strip c24) := by kernel_rfl
theorem q24 : trRes Try.prog Try.f24.results.toList = some r24 := by kernel_rfl
theorem fn24 : Try.prog.funcs[24]? = some Try.f24 := by kernel_rfl
theorem nn24 : (Try.f24.name == "runtime.NumGoroutine") = false := by kernel_rfl
theorem nt24 : Try.f24.ntmps = 20 := by kernel_rfl
def c4T5 : ICode :=
  (.keep [] (.seq (.ops [⟨(some 154), (.call (.k (.fn (.func 19) [] [])) []), none⟩,
    ⟨(some 2), (.mv (.t 154)), none⟩])
  .ret))
theorem w4T5 {x : Cx} {Q : QT} {ks : List Kont} {fr : Fr} {H : AHeap} {ms : List Nat} : W x Q c4T5 ks fr H ms = W x Q (.keep [] (.seq (.ops [⟨(some 154), (.call (.k (.fn (.func 19) [] [])) []), none⟩,
      ⟨(some 2), (.mv (.t 154)), none⟩])
    .ret)) ks fr H ms := rfl
/- live: [5, 7, 10] -/
def c4L4 : ICode :=
  (.seq (.seq (.ops [⟨(some 145), (.mv (.t 10)), none⟩,
    ⟨(some 146), (.mv (.t 7)), none⟩,
    ⟨(some 147), (.bin .leq (.t 145) (.t 146)), none⟩])
  (.cond (.t 147)
    .skip
    (.exit 4)))
  (.seq (.block 5 (.seq (.ops [⟨(some 150), (.mv (.t 5)), none⟩,
    ⟨(some 151), (.mv (.t 10)), none⟩,
    ⟨(some 152), (.call (.k (.fn (.func 25) [] [])) [(.t 150), (.t 151)]), none⟩,
    ⟨(some 153), (.un .not (.t 152)), none⟩])
  (.cond (.t 153)
    (.seq (.ops [⟨(some 2), (.mv (.k (B false))), none⟩])
    .ret)
    .skip)))
  (.ops [⟨(some 148), (.mv (.t 10)), none⟩,
    ⟨(some 149), (.bin .add (.t 148) (.k (I 1))), none⟩,
    ⟨(some 10), (.mv (.t 149)), none⟩])))
theorem w4L4 {x : Cx} {Q : QT} {ks : List Kont} {fr : Fr} {H : AHeap} {ms : List Nat} : W x Q c4L4 ks fr H ms = W x Q (.seq (.seq (.ops [⟨(some 145), (.mv (.t 10)), none⟩,
      ⟨(some 146), (.mv (.t 7)), none⟩,
      ⟨(some 147), (.bin .leq (.t 145) (.t 146)), none⟩])
    (.cond (.t 147)
      .skip
      (.exit 4)))
    (.seq (.block 5 (.seq (.ops [⟨(some 150), (.mv (.t 5)), none⟩,
      ⟨(some 151), (.mv (.t 10)), none⟩,
      ⟨(some 152), (.call (.k (.fn (.func 25) [] [])) [(.t 150), (.t 151)]), none⟩,
      ⟨(some 153), (.un .not (.t 152)), none⟩])
    (.cond (.t 153)
      (.seq (.ops [⟨(some 2), (.mv (.k (B false))), none⟩])
      .ret)
      .skip)))
    (.ops [⟨(some 148), (.mv (.t 10)), none⟩,
      ⟨(some 149), (.bin .add (.t 148) (.k (I 1))), none⟩,
      ⟨(some 10), (.mv (.t 149)), none⟩]))) ks fr H ms := rfl
def c4T3 : ICode :=
  (.keep [5, 7] (.seq (.seq (.ops [⟨(some 10), (.mv (.k (I 1))), none⟩])
  (.block 4 (.loop c4L4)))
  c4T5))
theorem w4T3 {x : Cx} {Q : QT} {ks : List Kont} {fr : Fr} {H : AHeap} {ms : List Nat} : W x Q c4T3 ks fr H ms = W x Q (.keep [5, 7] (.seq (.seq (.ops [⟨(some 10), (.mv (.k (I 1))), none⟩])
    (.block 4 (.loop c4L4)))
    c4T5)) ks fr H ms := rfl
def c4T2 : ICode :=
  (.keep [0, 3, 5, 7, 57, 58] (.ops [⟨(some 144), (.bin .add (.t 58) (.k (I 1))), none⟩,
    ⟨(some 58), (.mv (.t 144)), none⟩]))
theorem w4T2 {x : Cx} {Q : QT} {ks : List Kont} {fr : Fr} {H : AHeap} {ms : List Nat} : W x Q c4T2 ks fr H ms = W x Q (.keep [0, 3, 5, 7, 57, 58] (.ops [⟨(some 144), (.bin .add (.t 58) (.k (I 1))), none⟩,
      ⟨(some 58), (.mv (.t 144)), none⟩])) ks fr H ms := rfl
/- live: [0, 3, 5, 7, 8, 57, 58, 116, 117] -/
def c4L1 : ICode :=
  (.seq (.ops [⟨(some 118), (.bin .lss (.t 117) (.t 116)), none⟩])
  (.seq (.cond (.t 118)
    .skip
    (.exit 2))
  (.seq (.block 3 (.seq (.ops [⟨(some 119), (.mv (.t 117)), none⟩,
    ⟨(some 9), (.mv (.t 119)), none⟩])
  (.seq (.draw 0 [] (.early 1 ⟨(some 120), (.mv (.t 5)), none⟩
    (.early 1 ⟨(some 121), (.mv (.t 9)), none⟩
    (.early 1 ⟨(some 122), (.ixS 1 (.t 120) (.t 121)), none⟩
    (.early 1 ⟨(some 123), (.load false 1 (.t 122)), none⟩
    (.early 1 ⟨(some 124), (.mv (.t 5)), none⟩
    (.early 1 ⟨(some 125), (.mv (.t 8)), none⟩
    (.early 1 ⟨(some 126), (.ixS 1 (.t 124) (.t 125)), none⟩
    (.early 1 ⟨(some 127), (.load false 1 (.t 126)), none⟩
    (.early 0 ⟨(some 128), (.bin .geq (.t 123) (.t 127)), none⟩
    (.early 0 ⟨(some 129), (.mv (.t 128)), none⟩
    (.early 1 ⟨(some 130), (.mv (.t 0)), (some (129, true))⟩
    (.early 1 ⟨(some 131), (.mv (.t 8)), (some (129, true))⟩
    (.early 1 ⟨(some 132), (.mv (.t 9)), (some (129, true))⟩
    (.early 1 ⟨(some 133), (.call (.k (.fn (.func 24) [] [])) [(.t 130), (.t 131), (.t 132)]), (some (129, true))⟩
    (.early 1 ⟨(some 134), (.mv (.t 0)), (some (129, true))⟩
    (.early 1 ⟨(some 135), (.mv (.t 8)), (some (129, true))⟩
    (.early 1 ⟨(some 136), (.mv (.t 3)), (some (129, true))⟩
    (.early 1 ⟨(some 137), (.mv (.t 8)), (some (129, true))⟩
    (.early 1 ⟨(some 138), (.ixS 1 (.t 136) (.t 137)), (some (129, true))⟩
    (.early 1 ⟨(some 139), (.load false 1 (.t 138)), (some (129, true))⟩
    (.step 0 0 ⟨(some 140), (.call (.k (.fn (.func 24) [] [])) [(.t 134), (.t 135), (.t 139)]), (some (129, true))⟩
    (.early 0 ⟨(some 141), (.bin .lss (.t 133) (.t 140)), (some (129, true))⟩
    (.early 0 ⟨(some 142), (.pick (.t 129) (.t 141) (.k (B false))), none⟩
    .done))))))))))))))))))))))))
  (.keep [0, 3, 5, 7, 8, 57, 58, 116, 117, 142] (.cond (.t 142)
    (.seq (.ops [⟨(some 2), (.mv (.k (B false))), none⟩])
    .ret)
    .skip)))))
  (.ops [⟨(some 143), (.bin .add (.t 117) (.k (I 1))), none⟩,
    ⟨(some 117), (.mv (.t 143)), none⟩]))))
theorem w4L1 {x : Cx} {Q : QT} {ks : List Kont} {fr : Fr} {H : AHeap} {ms : List Nat} : W x Q c4L1 ks fr H ms = W x Q (.seq (.ops [⟨(some 118), (.bin .lss (.t 117) (.t 116)), none⟩])
    (.seq (.cond (.t 118)
      .skip
      (.exit 2))
    (.seq (.block 3 (.seq (.ops [⟨(some 119), (.mv (.t 117)), none⟩,
      ⟨(some 9), (.mv (.t 119)), none⟩])
    (.seq (.draw 0 [] (.early 1 ⟨(some 120), (.mv (.t 5)), none⟩
      (.early 1 ⟨(some 121), (.mv (.t 9)), none⟩
      (.early 1 ⟨(some 122), (.ixS 1 (.t 120) (.t 121)), none⟩
      (.early 1 ⟨(some 123), (.load false 1 (.t 122)), none⟩
      (.early 1 ⟨(some 124), (.mv (.t 5)), none⟩
      (.early 1 ⟨(some 125), (.mv (.t 8)), none⟩
      (.early 1 ⟨(some 126), (.ixS 1 (.t 124) (.t 125)), none⟩
      (.early 1 ⟨(some 127), (.load false 1 (.t 126)), none⟩
      (.early 0 ⟨(some 128), (.bin .geq (.t 123) (.t 127)), none⟩
      (.early 0 ⟨(some 129), (.mv (.t 128)), none⟩
      (.early 1 ⟨(some 130), (.mv (.t 0)), (some (129, true))⟩
      (.early 1 ⟨(some 131), (.mv (.t 8)), (some (129, true))⟩
      (.early 1 ⟨(some 132), (.mv (.t 9)), (some (129, true))⟩
      (.early 1 ⟨(some 133), (.call (.k (.fn (.func 24) [] [])) [(.t 130), (.t 131), (.t 132)]), (some (129, true))⟩
      (.early 1 ⟨(some 134), (.mv (.t 0)), (some (129, true))⟩
      (.early 1 ⟨(some 135), (.mv (.t 8)), (some (129, true))⟩
      (.early 1 ⟨(some 136), (.mv (.t 3)), (some (129, true))⟩
      (.early 1 ⟨(some 137), (.mv (.t 8)), (some (129, true))⟩
      (.early 1 ⟨(some 138), (.ixS 1 (.t 136) (.t 137)), (some (129, true))⟩
      (.early 1 ⟨(some 139), (.load false 1 (.t 138)), (some (129, true))⟩
      (.step 0 0 ⟨(some 140), (.call (.k (.fn (.func 24) [] [])) [(.t 134), (.t 135), (.t 139)]), (some (129, true))⟩
      (.early 0 ⟨(some 141), (.bin .lss (.t 133) (.t 140)), (some (129, true))⟩
      (.early 0 ⟨(some 142), (.pick (.t 129) (.t 141) (.k (B false))), none⟩
      .done))))))))))))))))))))))))
    (.keep [0, 3, 5, 7, 8, 57, 58, 116, 117, 142] (.cond (.t 142)
      (.seq (.ops [⟨(some 2), (.mv (.k (B false))), none⟩])
      .ret)
      .skip)))))
    (.ops [⟨(some 143), (.bin .add (.t 117) (.k (I 1))), none⟩,
      ⟨(some 117), (.mv (.t 143)), none⟩])))) ks fr H ms := rfl
/- live: [0, 3, 5, 7, 57, 58] -/
def c4L0 : ICode :=
  (.seq (.ops [⟨(some 59), (.bin .lss (.t 58) (.t 57)), none⟩])
  (.seq (.cond (.t 59)
    .skip
    (.exit 0))
  (.seq (.block 1 (.seq (.ops [⟨(some 60), (.mv (.t 58)), none⟩,
    ⟨(some 8), (.mv (.t 60)), none⟩])
  (.seq (.seq (.draw 0 [] (.early 1 ⟨(some 61), (.mv (.t 5)), none⟩
    (.early 1 ⟨(some 62), (.mv (.t 8)), none⟩
    (.early 0 ⟨(some 63), (.ixS 1 (.t 61) (.t 62)), none⟩
    (.early 0 ⟨(some 64), (.load false 1 (.t 63)), none⟩
    (.early 0 ⟨(some 65), (.bin .lss (.t 64) (.k (I 1))), none⟩
    (.early 0 ⟨(some 66), (.mv (.t 65)), none⟩
    (.early 1 ⟨(some 67), (.mv (.t 5)), (some (66, false))⟩
    (.early 1 ⟨(some 68), (.mv (.t 8)), (some (66, false))⟩
    (.early 1 ⟨(some 69), (.ixS 1 (.t 67) (.t 68)), (some (66, false))⟩
    (.early 1 ⟨(some 70), (.load false 1 (.t 69)), (some (66, false))⟩
    (.early 1 ⟨(some 71), (.mv (.t 0)), (some (66, false))⟩
    (.early 1 ⟨(some 72), (.len (.t 71)), (some (66, false))⟩
    (.early 0 ⟨(some 73), (.bin .gtr (.t 70) (.t 72)), (some (66, false))⟩
    (.early 0 ⟨(some 74), (.pick (.t 66) (.k (B true)) (.t 73)), none⟩
    (.early 0 ⟨(some 75), (.mv (.t 74)), none⟩
    (.early 1 ⟨(some 76), (.mv (.t 5)), (some (75, false))⟩
    (.early 1 ⟨(some 77), (.mv (.t 8)), (some (75, false))⟩
    (.early 0 ⟨(some 78), (.ixS 1 (.t 76) (.t 77)), (some (75, false))⟩
    (.early 0 ⟨(some 79), (.load false 1 (.t 78)), (some (75, false))⟩
    (.early 0 ⟨(some 80), (.bin .eql (.t 79) (.k (I 1))), (some (75, false))⟩
    (.early 0 ⟨(some 81), (.mv (.t 80)), (some (75, false))⟩
    (.early 1 ⟨(some 82), (.mv (.t 3)), (some (81, true))⟩
    (.early 1 ⟨(some 83), (.mv (.t 8)), (some (81, true))⟩
    (.early 1 ⟨(some 84), (.ixS 1 (.t 82) (.t 83)), (some (81, true))⟩
    (.early 1 ⟨(some 85), (.load false 1 (.t 84)), (some (81, true))⟩
    (.early 1 ⟨(some 86), (.mv (.t 0)), (some (81, true))⟩
    (.early 1 ⟨(some 87), (.mv (.t 8)), (some (81, true))⟩
    (.early 1 ⟨(some 88), (.ixS 1 (.t 86) (.t 87)), (some (81, true))⟩
    (.early 1 ⟨(some 89), (.load false 1 (.t 88)), (some (81, true))⟩
    (.early 1 ⟨(some 90), (.ixS 1 (.t 89) (.k (I 0))), (some (81, true))⟩
    (.early 1 ⟨(some 91), (.load false 1 (.t 90)), (some (81, true))⟩
    (.early 0 ⟨(some 92), (.bin .neq (.t 85) (.t 91)), (some (81, true))⟩
    (.early 0 ⟨(some 93), (.pick (.t 81) (.t 92) (.k (B false))), (some (75, false))⟩
    (.early 0 ⟨(some 94), (.pick (.t 75) (.k (B true)) (.t 93)), none⟩
    (.early 0 ⟨(some 95), (.mv (.t 94)), none⟩
    (.early 1 ⟨(some 96), (.mv (.t 5)), (some (95, false))⟩
    (.early 1 ⟨(some 97), (.mv (.t 3)), (some (95, false))⟩
    (.early 1 ⟨(some 98), (.mv (.t 8)), (some (95, false))⟩
    (.early 1 ⟨(some 99), (.ixS 1 (.t 97) (.t 98)), (some (95, false))⟩
    (.early 1 ⟨(some 100), (.load false 1 (.t 99)), (some (95, false))⟩
    (.early 1 ⟨(some 101), (.ixS 1 (.t 96) (.t 100)), (some (95, false))⟩
    (.early 1 ⟨(some 102), (.load false 1 (.t 101)), (some (95, false))⟩
    (.early 1 ⟨(some 103), (.mv (.t 5)), (some (95, false))⟩
    (.early 1 ⟨(some 104), (.mv (.t 8)), (some (95, false))⟩
    (.early 1 ⟨(some 105), (.ixS 1 (.t 103) (.t 104)), (some (95, false))⟩
    (.early 1 ⟨(some 106), (.load false 1 (.t 105)), (some (95, false))⟩
    (.early 0 ⟨(some 107), (.bin .neq (.t 102) (.t 106)), (some (95, false))⟩
    (.early 0 ⟨(some 108), (.pick (.t 95) (.k (B true)) (.t 107)), none⟩
    .done)))))))))))))))))))))))))))))))))))))))))))))))))
  (.keep [0, 3, 5, 7, 8, 57, 58, 108] (.cond (.t 108)
    (.seq (.ops [⟨(some 2), (.mv (.k (B false))), none⟩])
    .ret)
    .skip)))
  (.seq (.ops [⟨(some 109), (.mv (.t 7)), none⟩,
    ⟨(some 110), (.mv (.t 5)), none⟩,
    ⟨(some 111), (.mv (.t 8)), none⟩,
    ⟨(some 112), (.ixS 1 (.t 110) (.t 111)), none⟩,
    ⟨(some 113), (.load false 1 (.t 112)), none⟩,
    ⟨(some 114), (.mx (.t 109) (.t 113)), none⟩,
    ⟨(some 7), (.mv (.t 114)), none⟩])
  (.seq (.ops [⟨(some 115), (.mv (.t 0)), none⟩,
    ⟨(some 116), (.len (.t 115)), none⟩,
    ⟨(some 117), (.mv (.k (I 0))), none⟩])
  (.block 2 (.loop c4L1)))))))
  c4T2)))
theorem w4L0 {x : Cx} {Q : QT} {ks : List Kont} {fr : Fr} {H : AHeap} {ms : List Nat} : W x Q c4L0 ks fr H ms = W x Q (.seq (.ops [⟨(some 59), (.bin .lss (.t 58) (.t 57)), none⟩])
    (.seq (.cond (.t 59)
      .skip
      (.exit 0))
    (.seq (.block 1 (.seq (.ops [⟨(some 60), (.mv (.t 58)), none⟩,
      ⟨(some 8), (.mv (.t 60)), none⟩])
    (.seq (.seq (.draw 0 [] (.early 1 ⟨(some 61), (.mv (.t 5)), none⟩
      (.early 1 ⟨(some 62), (.mv (.t 8)), none⟩
      (.early 0 ⟨(some 63), (.ixS 1 (.t 61) (.t 62)), none⟩
      (.early 0 ⟨(some 64), (.load false 1 (.t 63)), none⟩
      (.early 0 ⟨(some 65), (.bin .lss (.t 64) (.k (I 1))), none⟩
      (.early 0 ⟨(some 66), (.mv (.t 65)), none⟩
      (.early 1 ⟨(some 67), (.mv (.t 5)), (some (66, false))⟩
      (.early 1 ⟨(some 68), (.mv (.t 8)), (some (66, false))⟩
      (.early 1 ⟨(some 69), (.ixS 1 (.t 67) (.t 68)), (some (66, false))⟩
      (.early 1 ⟨(some 70), (.load false 1 (.t 69)), (some (66, false))⟩
      (.early 1 ⟨(some 71), (.mv (.t 0)), (some (66, false))⟩
      (.early 1 ⟨(some 72), (.len (.t 71)), (some (66, false))⟩
      (.early 0 ⟨(some 73), (.bin .gtr (.t 70) (.t 72)), (some (66, false))⟩
      (.early 0 ⟨(some 74), (.pick (.t 66) (.k (B true)) (.t 73)), none⟩
      (.early 0 ⟨(some 75), (.mv (.t 74)), none⟩
      (.early 1 ⟨(some 76), (.mv (.t 5)), (some (75, false))⟩
      (.early 1 ⟨(some 77), (.mv (.t 8)), (some (75, false))⟩
      (.early 0 ⟨(some 78), (.ixS 1 (.t 76) (.t 77)), (some (75, false))⟩
      (.early 0 ⟨(some 79), (.load false 1 (.t 78)), (some (75, false))⟩
      (.early 0 ⟨(some 80), (.bin .eql (.t 79) (.k (I 1))), (some (75, false))⟩
      (.early 0 ⟨(some 81), (.mv (.t 80)), (some (75, false))⟩
      (.early 1 ⟨(some 82), (.mv (.t 3)), (some (81, true))⟩
      (.early 1 ⟨(some 83), (.mv (.t 8)), (some (81, true))⟩
      (.early 1 ⟨(some 84), (.ixS 1 (.t 82) (.t 83)), (some (81, true))⟩
      (.early 1 ⟨(some 85), (.load false 1 (.t 84)), (some (81, true))⟩
      (.early 1 ⟨(some 86), (.mv (.t 0)), (some (81, true))⟩
      (.early 1 ⟨(some 87), (.mv (.t 8)), (some (81, true))⟩
      (.early 1 ⟨(some 88), (.ixS 1 (.t 86) (.t 87)), (some (81, true))⟩
      (.early 1 ⟨(some 89), (.load false 1 (.t 88)), (some (81, true))⟩
      (.early 1 ⟨(some 90), (.ixS 1 (.t 89) (.k (I 0))), (some (81, true))⟩
      (.early 1 ⟨(some 91), (.load false 1 (.t 90)), (some (81, true))⟩
      (.early 0 ⟨(some 92), (.bin .neq (.t 85) (.t 91)), (some (81, true))⟩
      (.early 0 ⟨(some 93), (.pick (.t 81) (.t 92) (.k (B false))), (some (75, false))⟩
      (.early 0 ⟨(some 94), (.pick (.t 75) (.k (B true)) (.t 93)), none⟩
      (.early 0 ⟨(some 95), (.mv (.t 94)), none⟩
      (.early 1 ⟨(some 96), (.mv (.t 5)), (some (95, false))⟩
      (.early 1 ⟨(some 97), (.mv (.t 3)), (some (95, false))⟩
      (.early 1 ⟨(some 98), (.mv (.t 8)), (some (95, false))⟩
      (.early 1 ⟨(some 99), (.ixS 1 (.t 97) (.t 98)), (some (95, false))⟩
      (.early 1 ⟨(some 100), (.load false 1 (.t 99)), (some (95, false))⟩
      (.early 1 ⟨(some 101), (.ixS 1 (.t 96) (.t 100)), (some (95, false))⟩
      (.early 1 ⟨(some 102), (.load false 1 (.t 101)), (some (95, false))⟩
      (.early 1 ⟨(some 103), (.mv (.t 5)), (some (95, false))⟩
      (.early 1 ⟨(some 104), (.mv (.t 8)), (some (95, false))⟩
      (.early 1 ⟨(some 105), (.ixS 1 (.t 103) (.t 104)), (some (95, false))⟩
      (.early 1 ⟨(some 106), (.load false 1 (.t 105)), (some (95, false))⟩
      (.early 0 ⟨(some 107), (.bin .neq (.t 102) (.t 106)), (some (95, false))⟩
      (.early 0 ⟨(some 108), (.pick (.t 95) (.k (B true)) (.t 107)), none⟩
      .done)))))))))))))))))))))))))))))))))))))))))))))))))
    (.keep [0, 3, 5, 7, 8, 57, 58, 108] (.cond (.t 108)
      (.seq (.ops [⟨(some 2), (.mv (.k (B false))), none⟩])
      .ret)
      .skip)))
    (.seq (.ops [⟨(some 109), (.mv (.t 7)), none⟩,
      ⟨(some 110), (.mv (.t 5)), none⟩,
      ⟨(some 111), (.mv (.t 8)), none⟩,
      ⟨(some 112), (.ixS 1 (.t 110) (.t 111)), none⟩,
      ⟨(some 113), (.load false 1 (.t 112)), none⟩,
      ⟨(some 114), (.mx (.t 109) (.t 113)), none⟩,
      ⟨(some 7), (.mv (.t 114)), none⟩])
    (.seq (.ops [⟨(some 115), (.mv (.t 0)), none⟩,
      ⟨(some 116), (.len (.t 115)), none⟩,
      ⟨(some 117), (.mv (.k (I 0))), none⟩])
    (.block 2 (.loop c4L1)))))))
    c4T2))) ks fr H ms := rfl
def c4 : ICode :=
  (.seq (.ops [⟨(some 2), (.mv (.k (B false))), none⟩])
  (.seq (.ops [⟨(some 12), (.mv (.t 0)), none⟩,
    ⟨(some 13), (.call (.k (.fn (.func 16) [] [])) [(.t 12)]), none⟩,
    ⟨(some 14), (.call (.k (.fn (.func 15) [] [])) [(.t 13)]), none⟩,
    ⟨(some 11), (.mv (.t 14)), none⟩,
    ⟨(some 15), (.ext (.t 11) 0), none⟩,
    ⟨(some 16), (.ext (.t 11) 1), none⟩,
    ⟨(some 3), (.mv (.t 15)), none⟩,
    ⟨(some 4), (.mv (.t 16)), none⟩])
  (.seq (.ops [⟨(some 18), (.mv (.t 0)), none⟩,
    ⟨(some 19), (.call (.k (.fn (.func 16) [] [])) [(.t 18)]), none⟩,
    ⟨(some 20), (.call (.k (.fn (.func 17) [] [])) [(.t 19)]), none⟩,
    ⟨(some 17), (.mv (.t 20)), none⟩,
    ⟨(some 21), (.ext (.t 17) 0), none⟩,
    ⟨(some 22), (.ext (.t 17) 1), none⟩,
    ⟨(some 5), (.mv (.t 21)), none⟩,
    ⟨(some 6), (.mv (.t 22)), none⟩])
  (.seq (.seq (.ops [⟨(some 23), (.mv (.t 4)), none⟩,
    ⟨(some 24), (.bin .neq (.t 23) (.k (I 0))), none⟩,
    ⟨(some 25), (.mv (.t 24)), none⟩,
    ⟨(some 26), (.mv (.t 6)), (some (25, false))⟩,
    ⟨(some 27), (.bin .neq (.t 26) (.k (I 0))), (some (25, false))⟩,
    ⟨(some 28), (.pick (.t 25) (.k (B true)) (.t 27)), none⟩,
    ⟨(some 29), (.mv (.t 28)), none⟩,
    ⟨(some 30), (.mv (.t 0)), (some (29, false))⟩,
    ⟨(some 31), (.call (.k (.fn (.func 18) [] [])) [(.t 30)]), (some (29, false))⟩,
    ⟨(some 32), (.un .not (.t 31)), (some (29, false))⟩,
    ⟨(some 33), (.pick (.t 29) (.k (B true)) (.t 32)), none⟩])
  (.cond (.t 33)
    (.seq (.ops [⟨(some 34), (.mv (.t 4)), none⟩,
      ⟨(some 35), (.bin .eql (.t 34) (.k (I 2))), none⟩,
      ⟨(some 36), (.mv (.t 35)), none⟩,
      ⟨(some 37), (.mv (.t 6)), (some (36, true))⟩,
      ⟨(some 38), (.mv (.t 4)), (some (36, true))⟩,
      ⟨(some 39), (.bin .eql (.t 37) (.t 38)), (some (36, true))⟩,
      ⟨(some 40), (.pick (.t 36) (.t 39) (.k (B false))), none⟩,
      ⟨(some 41), (.mv (.t 40)), none⟩,
      ⟨(some 42), (.call (.k (.fn (.func 19) [] [])) []), (some (41, true))⟩,
      ⟨(some 43), (.pick (.t 41) (.t 42) (.k (B false))), none⟩,
      ⟨(some 2), (.mv (.t 43)), none⟩])
    .ret)
    .skip))
  (.seq (.seq (.ops [⟨(some 44), (.mv (.t 3)), none⟩,
    ⟨(some 45), (.mv (.t 0)), none⟩,
    ⟨(some 46), (.len (.t 45)), none⟩,
    ⟨(some 47), (.call (.k (.fn (.func 23) [] [])) [(.t 44), (.t 46)]), none⟩,
    ⟨(some 48), (.un .not (.t 47)), none⟩,
    ⟨(some 49), (.mv (.t 48)), none⟩,
    ⟨(some 50), (.mv (.t 5)), (some (49, false))⟩,
    ⟨(some 51), (.len (.t 50)), (some (49, false))⟩,
    ⟨(some 52), (.mv (.t 0)), (some (49, false))⟩,
    ⟨(some 53), (.len (.t 52)), (some (49, false))⟩,
    ⟨(some 54), (.bin .neq (.t 51) (.t 53)), (some (49, false))⟩,
    ⟨(some 55), (.pick (.t 49) (.k (B true)) (.t 54)), none⟩])
  (.cond (.t 55)
    (.seq (.ops [⟨(some 2), (.mv (.k (B false))), none⟩])
    .ret)
    .skip))
  (.seq (.ops [⟨(some 7), (.mv (.k (I 0))), none⟩])
  (.seq (.seq (.ops [⟨(some 56), (.mv (.t 0)), none⟩,
    ⟨(some 57), (.len (.t 56)), none⟩,
    ⟨(some 58), (.mv (.k (I 0))), none⟩])
  (.block 0 (.loop c4L0)))
  c4T3)))))))
theorem w4 {x : Cx} {Q : QT} {ks : List Kont} {fr : Fr} {H : AHeap} {ms : List Nat} : W x Q c4 ks fr H ms = W x Q (.seq (.ops [⟨(some 2), (.mv (.k (B false))), none⟩])
    (.seq (.ops [⟨(some 12), (.mv (.t 0)), none⟩,
      ⟨(some 13), (.call (.k (.fn (.func 16) [] [])) [(.t 12)]), none⟩,
      ⟨(some 14), (.call (.k (.fn (.func 15) [] [])) [(.t 13)]), none⟩,
      ⟨(some 11), (.mv (.t 14)), none⟩,
      ⟨(some 15), (.ext (.t 11) 0), none⟩,
      ⟨(some 16), (.ext (.t 11) 1), none⟩,
      ⟨(some 3), (.mv (.t 15)), none⟩,
      ⟨(some 4), (.mv (.t 16)), none⟩])
    (.seq (.ops [⟨(some 18), (.mv (.t 0)), none⟩,
      ⟨(some 19), (.call (.k (.fn (.func 16) [] [])) [(.t 18)]), none⟩,
      ⟨(some 20), (.call (.k (.fn (.func 17) [] [])) [(.t 19)]), none⟩,
      ⟨(some 17), (.mv (.t 20)), none⟩,
      ⟨(some 21), (.ext (.t 17) 0), none⟩,
      ⟨(some 22), (.ext (.t 17) 1), none⟩,
      ⟨(some 5), (.mv (.t 21)), none⟩,
      ⟨(some 6), (.mv (.t 22)), none⟩])
    (.seq (.seq (.ops [⟨(some 23), (.mv (.t 4)), none⟩,
      ⟨(some 24), (.bin .neq (.t 23) (.k (I 0))), none⟩,
      ⟨(some 25), (.mv (.t 24)), none⟩,
      ⟨(some 26), (.mv (.t 6)), (some (25, false))⟩,
      ⟨(some 27), (.bin .neq (.t 26) (.k (I 0))), (some (25, false))⟩,
      ⟨(some 28), (.pick (.t 25) (.k (B true)) (.t 27)), none⟩,
      ⟨(some 29), (.mv (.t 28)), none⟩,
      ⟨(some 30), (.mv (.t 0)), (some (29, false))⟩,
      ⟨(some 31), (.call (.k (.fn (.func 18) [] [])) [(.t 30)]), (some (29, false))⟩,
      ⟨(some 32), (.un .not (.t 31)), (some (29, false))⟩,
      ⟨(some 33), (.pick (.t 29) (.k (B true)) (.t 32)), none⟩])
    (.cond (.t 33)
      (.seq (.ops [⟨(some 34), (.mv (.t 4)), none⟩,
        ⟨(some 35), (.bin .eql (.t 34) (.k (I 2))), none⟩,
        ⟨(some 36), (.mv (.t 35)), none⟩,
        ⟨(some 37), (.mv (.t 6)), (some (36, true))⟩,
        ⟨(some 38), (.mv (.t 4)), (some (36, true))⟩,
        ⟨(some 39), (.bin .eql (.t 37) (.t 38)), (some (36, true))⟩,
        ⟨(some 40), (.pick (.t 36) (.t 39) (.k (B false))), none⟩,
        ⟨(some 41), (.mv (.t 40)), none⟩,
        ⟨(some 42), (.call (.k (.fn (.func 19) [] [])) []), (some (41, true))⟩,
        ⟨(some 43), (.pick (.t 41) (.t 42) (.k (B false))), none⟩,
        ⟨(some 2), (.mv (.t 43)), none⟩])
      .ret)
      .skip))
    (.seq (.seq (.ops [⟨(some 44), (.mv (.t 3)), none⟩,
      ⟨(some 45), (.mv (.t 0)), none⟩,
      ⟨(some 46), (.len (.t 45)), none⟩,
      ⟨(some 47), (.call (.k (.fn (.func 23) [] [])) [(.t 44), (.t 46)]), none⟩,
      ⟨(some 48), (.un .not (.t 47)), none⟩,
      ⟨(some 49), (.mv (.t 48)), none⟩,
      ⟨(some 50), (.mv (.t 5)), (some (49, false))⟩,
      ⟨(some 51), (.len (.t 50)), (some (49, false))⟩,
      ⟨(some 52), (.mv (.t 0)), (some (49, false))⟩,
      ⟨(some 53), (.len (.t 52)), (some (49, false))⟩,
      ⟨(some 54), (.bin .neq (.t 51) (.t 53)), (some (49, false))⟩,
      ⟨(some 55), (.pick (.t 49) (.k (B true)) (.t 54)), none⟩])
    (.cond (.t 55)
      (.seq (.ops [⟨(some 2), (.mv (.k (B false))), none⟩])
      .ret)
      .skip))
    (.seq (.ops [⟨(some 7), (.mv (.k (I 0))), none⟩])
    (.seq (.seq (.ops [⟨(some 56), (.mv (.t 0)), none⟩,
      ⟨(some 57), (.len (.t 56)), none⟩,
      ⟨(some 58), (.mv (.k (I 0))), none⟩])
    (.block 0 (.loop c4L0)))
    c4T3))))))) ks fr H ms := rfl
def r4 : List IRes := [(.tmp 2)]
theorem t4 : Try.f4.body.bind (trCode Try.prog Try.f4.ntmps) = some (strip c4) := by kernel_rfl
theorem q4 : trRes Try.prog Try.f4.results.toList = some r4 := by kernel_rfl
theorem fn4 : Try.prog.funcs[4]? = some Try.f4 := by kernel_rfl
theorem nn4 : (Try.f4.name == "runtime.NumGoroutine") = false := by kernel_rfl
theorem nt4 : Try.f4.ntmps = 155 := by kernel_rfl
end Go.Proofs.Ytkmmngphcodjjaa

namespace Go.Proofs.Ytkmmngphcodjjaa
open Go.Abs AVal
def c61 : ICode :=
  (.seq (.ops [⟨(some 6), (.mv (.k (I 0))), none⟩])
  (.seq (.ops [⟨(some 7), (.mv (.t 0)), none⟩,
    ⟨(some 8), (.mv (.t 1)), none⟩,
    ⟨(some 9), (.ixS 1 (.t 7) (.t 8)), none⟩,
    ⟨(some 10), (.load false 1 (.t 9)), none⟩,
    ⟨(some 11), (.mv (.t 2)), none⟩,
    ⟨(some 12), (.call (.k (.fn (.func 58) [] [])) [(.t 10), (.t 11)]), none⟩,
    ⟨(some 6), (.mv (.t 12)), none⟩])
  .ret))
theorem w61 {x : Cx} {Q : QT} {ks : List Kont} {fr : Fr} {H : AHeap} {ms : List Nat} : W x Q c61 ks fr H ms = W x Q (.seq (.ops [⟨(some 6), (.mv (.k (I 0))), none⟩])
    (.seq (.ops [⟨(some 7), (.mv (.t 0)), none⟩,
      ⟨(some 8), (.mv (.t 1)), none⟩,
      ⟨(some 9), (.ixS 1 (.t 7) (.t 8)), none⟩,
      ⟨(some 10), (.load false 1 (.t 9)), none⟩,
      ⟨(some 11), (.mv (.t 2)), none⟩,
      ⟨(some 12), (.call (.k (.fn (.func 58) [] [])) [(.t 10), (.t 11)]), none⟩,
      ⟨(some 6), (.mv (.t 12)), none⟩])
    .ret)) ks fr H ms := rfl
def r61 : List IRes := [(.tmp 6)]
theorem t61 : Try.f61.body.bind (trCode Try.prog Try.f61.ntmps) = some (strip c61) := by kernel_rfl
theorem q61 : trRes Try.prog Try.f61.results.toList = some r61 := by kernel_rfl
theorem fn61 : Try.prog.funcs[61]? = some Try.f61 := by kernel_rfl
theorem nn61 : (Try.f61.name == "runtime.NumGoroutine") = false := by kernel_rfl
theorem nt61 : Try.f61.ntmps = 13 := by kernel_rfl
def c28 : ICode :=
  (.seq (.ops [⟨(some 4), (.mv (.k (B false))), none⟩])
  (.seq (.ops [⟨(some 5), (.mv (.t 0)), none⟩,
    ⟨(some 6), (.call (.k (.fn (.func 18) [] [])) [(.t 5)]), none⟩,
    ⟨(some 7), (.mv (.t 6)), none⟩,
    ⟨(some 8), (.mv (.t 1)), (some (7, true))⟩,
    ⟨(some 9), (.mv (.t 0)), (some (7, true))⟩,
    ⟨(some 10), (.len (.t 9)), (some (7, true))⟩,
    ⟨(some 11), (.call (.k (.fn (.func 23) [] [])) [(.t 8), (.t 10)]), (some (7, true))⟩,
    ⟨(some 12), (.pick (.t 7) (.t 11) (.k (B false))), none⟩,
    ⟨(some 4), (.mv (.t 12)), none⟩])
  .ret))
theorem w28 {x : Cx} {Q : QT} {ks : List Kont} {fr : Fr} {H : AHeap} {ms : List Nat} : W x Q c28 ks fr H ms = W x Q (.seq (.ops [⟨(some 4), (.mv (.k (B false))), none⟩])
    (.seq (.ops [⟨(some 5), (.mv (.t 0)), none⟩,
      ⟨(some 6), (.call (.k (.fn (.func 18) [] [])) [(.t 5)]), none⟩,
      ⟨(some 7), (.mv (.t 6)), none⟩,
      ⟨(some 8), (.mv (.t 1)), (some (7, true))⟩,
      ⟨(some 9), (.mv (.t 0)), (some (7, true))⟩,
      ⟨(some 10), (.len (.t 9)), (some (7, true))⟩,
      ⟨(some 11), (.call (.k (.fn (.func 23) [] [])) [(.t 8), (.t 10)]), (some (7, true))⟩,
      ⟨(some 12), (.pick (.t 7) (.t 11) (.k (B false))), none⟩,
      ⟨(some 4), (.mv (.t 12)), none⟩])
    .ret)) ks fr H ms := rfl
def r28 : List IRes := [(.tmp 4)]
theorem t28 : Try.f28.body.bind (trCode Try.prog Try.f28.ntmps) = some (strip c28) := by kernel_rfl
theorem q28 : trRes Try.prog Try.f28.results.toList = some r28 := by kernel_rfl
theorem fn28 : Try.prog.funcs[28]? = some Try.f28 := by kernel_rfl
theorem nn28 : (Try.f28.name == "runtime.NumGoroutine") = false := by kernel_rfl
theorem nt28 : Try.f28.ntmps = 13 := by kernel_rfl
def c26 : ICode :=
  (.seq (.ops [⟨(some 6), (.mv (.k (I 0))), none⟩,
    ⟨(some 7), (.mv (.k (I 0))), none⟩,
    ⟨(some 8), (.mv (.k (I 0))), none⟩])
  (.seq (.ops [⟨(some 15), (.mv (.t 0)), none⟩,
    ⟨(some 9), (.mv (.t 15)), none⟩])
  (.seq (.seq (.ops [⟨(some 16), (.mv (.t 9)), none⟩,
    ⟨(some 17), (.call (.k (.fn (.func 55) [] [])) [(.t 16)]), none⟩,
    ⟨(some 18), (.un .not (.t 17)), none⟩,
    ⟨(some 19), (.mv (.t 18)), none⟩,
    ⟨(some 20), (.mv (.t 1)), (some (19, false))⟩,
    ⟨(some 21), (.bin .lss (.t 20) (.k (I 0))), (some (19, false))⟩,
    ⟨(some 22), (.pick (.t 19) (.k (B true)) (.t 21)), none⟩,
    ⟨(some 23), (.mv (.t 22)), none⟩,
    ⟨(some 24), (.mv (.t 1)), (some (23, false))⟩,
    ⟨(some 25), (.mv (.t 0)), (some (23, false))⟩,
    ⟨(some 26), (.len (.t 25)), (some (23, false))⟩,
    ⟨(some 27), (.bin .geq (.t 24) (.t 26)), (some (23, false))⟩,
    ⟨(some 28), (.pick (.t 23) (.k (B true)) (.t 27)), none⟩,
    ⟨(some 29), (.mv (.t 28)), none⟩,
    ⟨(some 30), (.mv (.t 2)), (some (29, false))⟩,
    ⟨(some 31), (.mv (.t 0)), (some (29, false))⟩,
    ⟨(some 32), (.len (.t 31)), (some (29, false))⟩,
    ⟨(some 33), (.call (.k (.fn (.func 59) [] [])) [(.t 30), (.t 32)]), (some (29, false))⟩,
    ⟨(some 34), (.un .not (.t 33)), (some (29, false))⟩,
    ⟨(some 35), (.pick (.t 29) (.k (B true)) (.t 34)), none⟩])
  (.cond (.t 35)
    (.seq (.ops [⟨(some 6), (.mv (.k (I 0))), none⟩,
      ⟨(some 7), (.mv (.k (I 0))), none⟩,
      ⟨(some 8), (.mv (.k (I 2))), none⟩])
    .ret)
    .skip))
  (.seq (.ops [⟨(some 36), (.mv (.t 9)), none⟩,
    ⟨(some 37), (.call (.k (.fn (.func 60) [] [])) [(.t 36)]), none⟩,
    ⟨(some 10), (.mv (.t 37)), none⟩])
  (.seq (.ops [⟨(some 38), (.mv (.t 10)), none⟩,
    ⟨(some 39), (.mv (.t 1)), none⟩,
    ⟨(some 40), (.mv (.t 2)), none⟩,
    ⟨(some 41), (.ixS 1 (.t 38) (.t 39)), none⟩,
    ⟨none, (.store 1 (.t 41) (.t 40)), none⟩])
  (.seq (.ops [⟨(some 43), (.mv (.t 9)), none⟩,
    ⟨(some 44), (.call (.k (.fn (.func 56) [] [])) [(.t 43)]), none⟩,
    ⟨(some 42), (.mv (.t 44)), none⟩,
    ⟨(some 45), (.ext (.t 42) 0), none⟩,
    ⟨(some 46), (.ext (.t 42) 1), none⟩,
    ⟨(some 11), (.mv (.t 45)), none⟩,
    ⟨(some 12), (.mv (.t 46)), none⟩])
  (.seq (.ops [⟨(some 48), (.mv (.t 10)), none⟩,
    ⟨(some 49), (.call (.k (.fn (.func 56) [] [])) [(.t 48)]), none⟩,
    ⟨(some 47), (.mv (.t 49)), none⟩,
    ⟨(some 50), (.ext (.t 47) 0), none⟩,
    ⟨(some 51), (.ext (.t 47) 1), none⟩,
    ⟨(some 13), (.mv (.t 50)), none⟩,
    ⟨(some 14), (.mv (.t 51)), none⟩])
  (.seq (.draw 0 [] (.early 1 ⟨(some 52), (.mv (.t 9)), none⟩
    (.early 1 ⟨(some 53), (.mv (.t 1)), none⟩
    (.early 1 ⟨(some 54), (.mv (.t 11)), none⟩
    (.early 1 ⟨(some 55), (.mv (.t 1)), none⟩
    (.early 1 ⟨(some 56), (.ixS 1 (.t 54) (.t 55)), none⟩
    (.early 1 ⟨(some 57), (.load false 1 (.t 56)), none⟩
    (.early 1 ⟨(some 58), (.call (.k (.fn (.func 61) [] [])) [(.t 52), (.t 53), (.t 57)]), none⟩
    (.early 1 ⟨(some 59), (.mv (.t 9)), none⟩
    (.early 1 ⟨(some 60), (.mv (.t 1)), none⟩
    (.early 1 ⟨(some 61), (.mv (.t 13)), none⟩
    (.early 1 ⟨(some 62), (.mv (.t 1)), none⟩
    (.early 1 ⟨(some 63), (.ixS 1 (.t 61) (.t 62)), none⟩
    (.early 1 ⟨(some 64), (.load false 1 (.t 63)), none⟩
    (.step 0 0 ⟨(some 65), (.call (.k (.fn (.func 61) [] [])) [(.t 59), (.t 60), (.t 64)]), none⟩
    (.early 0 ⟨(some 6), (.mv (.t 58)), none⟩
    (.early 0 ⟨(some 7), (.mv (.t 65)), none⟩
    (.early 0 ⟨(some 8), (.mv (.k (I 0))), none⟩
    .done))))))))))))))))))
  (.keep [6, 7, 8] .ret)))))))))
theorem w26 {x : Cx} {Q : QT} {ks : List Kont} {fr : Fr} {H : AHeap} {ms : List Nat} : W x Q c26 ks fr H ms = W x Q (.seq (.ops [⟨(some 6), (.mv (.k (I 0))), none⟩,
      ⟨(some 7), (.mv (.k (I 0))), none⟩,
      ⟨(some 8), (.mv (.k (I 0))), none⟩])
    (.seq (.ops [⟨(some 15), (.mv (.t 0)), none⟩,
      ⟨(some 9), (.mv (.t 15)), none⟩])
    (.seq (.seq (.ops [⟨(some 16), (.mv (.t 9)), none⟩,
      ⟨(some 17), (.call (.k (.fn (.func 55) [] [])) [(.t 16)]), none⟩,
      ⟨(some 18), (.un .not (.t 17)), none⟩,
      ⟨(some 19), (.mv (.t 18)), none⟩,
      ⟨(some 20), (.mv (.t 1)), (some (19, false))⟩,
      ⟨(some 21), (.bin .lss (.t 20) (.k (I 0))), (some (19, false))⟩,
      ⟨(some 22), (.pick (.t 19) (.k (B true)) (.t 21)), none⟩,
      ⟨(some 23), (.mv (.t 22)), none⟩,
      ⟨(some 24), (.mv (.t 1)), (some (23, false))⟩,
      ⟨(some 25), (.mv (.t 0)), (some (23, false))⟩,
      ⟨(some 26), (.len (.t 25)), (some (23, false))⟩,
      ⟨(some 27), (.bin .geq (.t 24) (.t 26)), (some (23, false))⟩,
      ⟨(some 28), (.pick (.t 23) (.k (B true)) (.t 27)), none⟩,
      ⟨(some 29), (.mv (.t 28)), none⟩,
      ⟨(some 30), (.mv (.t 2)), (some (29, false))⟩,
      ⟨(some 31), (.mv (.t 0)), (some (29, false))⟩,
      ⟨(some 32), (.len (.t 31)), (some (29, false))⟩,
      ⟨(some 33), (.call (.k (.fn (.func 59) [] [])) [(.t 30), (.t 32)]), (some (29, false))⟩,
      ⟨(some 34), (.un .not (.t 33)), (some (29, false))⟩,
      ⟨(some 35), (.pick (.t 29) (.k (B true)) (.t 34)), none⟩])
    (.cond (.t 35)
      (.seq (.ops [⟨(some 6), (.mv (.k (I 0))), none⟩,
        ⟨(some 7), (.mv (.k (I 0))), none⟩,
        ⟨(some 8), (.mv (.k (I 2))), none⟩])
      .ret)
      .skip))
    (.seq (.ops [⟨(some 36), (.mv (.t 9)), none⟩,
      ⟨(some 37), (.call (.k (.fn (.func 60) [] [])) [(.t 36)]), none⟩,
      ⟨(some 10), (.mv (.t 37)), none⟩])
    (.seq (.ops [⟨(some 38), (.mv (.t 10)), none⟩,
      ⟨(some 39), (.mv (.t 1)), none⟩,
      ⟨(some 40), (.mv (.t 2)), none⟩,
      ⟨(some 41), (.ixS 1 (.t 38) (.t 39)), none⟩,
      ⟨none, (.store 1 (.t 41) (.t 40)), none⟩])
    (.seq (.ops [⟨(some 43), (.mv (.t 9)), none⟩,
      ⟨(some 44), (.call (.k (.fn (.func 56) [] [])) [(.t 43)]), none⟩,
      ⟨(some 42), (.mv (.t 44)), none⟩,
      ⟨(some 45), (.ext (.t 42) 0), none⟩,
      ⟨(some 46), (.ext (.t 42) 1), none⟩,
      ⟨(some 11), (.mv (.t 45)), none⟩,
      ⟨(some 12), (.mv (.t 46)), none⟩])
    (.seq (.ops [⟨(some 48), (.mv (.t 10)), none⟩,
      ⟨(some 49), (.call (.k (.fn (.func 56) [] [])) [(.t 48)]), none⟩,
      ⟨(some 47), (.mv (.t 49)), none⟩,
      ⟨(some 50), (.ext (.t 47) 0), none⟩,
      ⟨(some 51), (.ext (.t 47) 1), none⟩,
      ⟨(some 13), (.mv (.t 50)), none⟩,
      ⟨(some 14), (.mv (.t 51)), none⟩])
    (.seq (.draw 0 [] (.early 1 ⟨(some 52), (.mv (.t 9)), none⟩
      (.early 1 ⟨(some 53), (.mv (.t 1)), none⟩
      (.early 1 ⟨(some 54), (.mv (.t 11)), none⟩
      (.early 1 ⟨(some 55), (.mv (.t 1)), none⟩
      (.early 1 ⟨(some 56), (.ixS 1 (.t 54) (.t 55)), none⟩
      (.early 1 ⟨(some 57), (.load false 1 (.t 56)), none⟩
      (.early 1 ⟨(some 58), (.call (.k (.fn (.func 61) [] [])) [(.t 52), (.t 53), (.t 57)]), none⟩
      (.early 1 ⟨(some 59), (.mv (.t 9)), none⟩
      (.early 1 ⟨(some 60), (.mv (.t 1)), none⟩
      (.early 1 ⟨(some 61), (.mv (.t 13)), none⟩
      (.early 1 ⟨(some 62), (.mv (.t 1)), none⟩
      (.early 1 ⟨(some 63), (.ixS 1 (.t 61) (.t 62)), none⟩
      (.early 1 ⟨(some 64), (.load false 1 (.t 63)), none⟩
      (.step 0 0 ⟨(some 65), (.call (.k (.fn (.func 61) [] [])) [(.t 59), (.t 60), (.t 64)]), none⟩
      (.early 0 ⟨(some 6), (.mv (.t 58)), none⟩
      (.early 0 ⟨(some 7), (.mv (.t 65)), none⟩
      (.early 0 ⟨(some 8), (.mv (.k (I 0))), none⟩
      .done))))))))))))))))))
    (.keep [6, 7, 8] .ret))))))))) ks fr H ms := rfl
def r26 : List IRes := [(.tmp 6), (.tmp 7), (.tmp 8)]
theorem t26 : Try.f26.body.bind (trCode Try.prog Try.f26.ntmps) = some (strip c26) := by kernel_rfl
theorem q26 : trRes Try.prog Try.f26.results.toList = some r26 := by kernel_rfl
theorem fn26 : Try.prog.funcs[26]? = some Try.f26 := by kernel_rfl
theorem nn26 : (Try.f26.name == "runtime.NumGoroutine") = false := by kernel_rfl
theorem nt26 : Try.f26.ntmps = 66 := by kernel_rfl
def c29 : ICode :=
  (.seq (.ops [⟨(some 6), (.mv (.k (I 0))), none⟩,
    ⟨(some 7), (.mv (.k (I 0))), none⟩])
  (.seq (.ops [⟨(some 9), (.bslice 1 0 [nilSl] []), none⟩,
    ⟨(some 10), (.mv (.t 0)), none⟩,
    ⟨(some 11), (.append 1 24 (.t 9) (.t 10)), none⟩,
    ⟨(some 8), (.mv (.t 11)), none⟩])
  (.seq (.ops [⟨(some 12), (.mv (.t 8)), none⟩,
    ⟨(some 13), (.mv (.t 1)), none⟩,
    ⟨(some 14), (.mv (.t 2)), none⟩,
    ⟨(some 15), (.ixS 1 (.t 12) (.t 13)), none⟩,
    ⟨none, (.store 1 (.t 15) (.t 14)), none⟩])
  (.seq (.ops [⟨(some 16), (.mv (.t 0)), none⟩,
    ⟨(some 17), (.mv (.t 1)), none⟩,
    ⟨(some 18), (.mv (.t 0)), none⟩,
    ⟨(some 19), (.call (.k (.fn (.func 21) [] [])) [(.t 18)]), none⟩,
    ⟨(some 20), (.mv (.t 1)), none⟩,
    ⟨(some 21), (.ixS 1 (.t 19) (.t 20)), none⟩,
    ⟨(some 22), (.load false 1 (.t 21)), none⟩,
    ⟨(some 23), (.call (.k (.fn (.func 24) [] [])) [(.t 16), (.t 17), (.t 22)]), none⟩,
    ⟨(some 24), (.mv (.t 0)), none⟩,
    ⟨(some 25), (.mv (.t 1)), none⟩,
    ⟨(some 26), (.mv (.t 8)), none⟩,
    ⟨(some 27), (.call (.k (.fn (.func 21) [] [])) [(.t 26)]), none⟩,
    ⟨(some 28), (.mv (.t 1)), none⟩,
    ⟨(some 29), (.ixS 1 (.t 27) (.t 28)), none⟩,
    ⟨(some 30), (.load false 1 (.t 29)), none⟩,
    ⟨(some 31), (.call (.k (.fn (.func 24) [] [])) [(.t 24), (.t 25), (.t 30)]), none⟩,
    ⟨(some 6), (.mv (.t 23)), none⟩,
    ⟨(some 7), (.mv (.t 31)), none⟩])
  .ret))))
theorem w29 {x : Cx} {Q : QT} {ks : List Kont} {fr : Fr} {H : AHeap} {ms : List Nat} : W x Q c29 ks fr H ms = W x Q (.seq (.ops [⟨(some 6), (.mv (.k (I 0))), none⟩,
      ⟨(some 7), (.mv (.k (I 0))), none⟩])
    (.seq (.ops [⟨(some 9), (.bslice 1 0 [nilSl] []), none⟩,
      ⟨(some 10), (.mv (.t 0)), none⟩,
      ⟨(some 11), (.append 1 24 (.t 9) (.t 10)), none⟩,
      ⟨(some 8), (.mv (.t 11)), none⟩])
    (.seq (.ops [⟨(some 12), (.mv (.t 8)), none⟩,
      ⟨(some 13), (.mv (.t 1)), none⟩,
      ⟨(some 14), (.mv (.t 2)), none⟩,
      ⟨(some 15), (.ixS 1 (.t 12) (.t 13)), none⟩,
      ⟨none, (.store 1 (.t 15) (.t 14)), none⟩])
    (.seq (.ops [⟨(some 16), (.mv (.t 0)), none⟩,
      ⟨(some 17), (.mv (.t 1)), none⟩,
      ⟨(some 18), (.mv (.t 0)), none⟩,
      ⟨(some 19), (.call (.k (.fn (.func 21) [] [])) [(.t 18)]), none⟩,
      ⟨(some 20), (.mv (.t 1)), none⟩,
      ⟨(some 21), (.ixS 1 (.t 19) (.t 20)), none⟩,
      ⟨(some 22), (.load false 1 (.t 21)), none⟩,
      ⟨(some 23), (.call (.k (.fn (.func 24) [] [])) [(.t 16), (.t 17), (.t 22)]), none⟩,
      ⟨(some 24), (.mv (.t 0)), none⟩,
      ⟨(some 25), (.mv (.t 1)), none⟩,
      ⟨(some 26), (.mv (.t 8)), none⟩,
      ⟨(some 27), (.call (.k (.fn (.func 21) [] [])) [(.t 26)]), none⟩,
      ⟨(some 28), (.mv (.t 1)), none⟩,
      ⟨(some 29), (.ixS 1 (.t 27) (.t 28)), none⟩,
      ⟨(some 30), (.load false 1 (.t 29)), none⟩,
      ⟨(some 31), (.call (.k (.fn (.func 24) [] [])) [(.t 24), (.t 25), (.t 30)]), none⟩,
      ⟨(some 6), (.mv (.t 23)), none⟩,
      ⟨(some 7), (.mv (.t 31)), none⟩])
    .ret)))) ks fr H ms := rfl
def r29 : List IRes := [(.tmp 6), (.tmp 7)]
theorem t29 : Try.f29.body.bind (trCode Try.prog Try.f29.ntmps) = some (strip c29) := by kernel_rfl
theorem q29 : trRes Try.prog Try.f29.results.toList = some r29 := by kernel_rfl
theorem fn29 : Try.prog.funcs[29]? = some Try.f29 := by kernel_rfl
theorem nn29 : (Try.f29.name == "runtime.NumGoroutine") = false := by kernel_rfl
theorem nt29 : Try.f29.ntmps = 32 := by kernel_rfl
def c5 : ICode :=
  (.seq (.ops [⟨(some 6), (.mv (.k (B false))), none⟩])
  (.seq (.ops [⟨(some 13), (.mv (.t 0)), none⟩,
    ⟨(some 14), (.call (.k (.fn (.func 16) [] [])) [(.t 13)]), none⟩,
    ⟨(some 15), (.mv (.t 1)), none⟩,
    ⟨(some 16), (.mv (.t 2)), none⟩,
    ⟨(some 17), (.call (.k (.fn (.func 27) [] [])) [(.t 16)]), none⟩,
    ⟨(some 18), (.call (.k (.fn (.func 26) [] [])) [(.t 14), (.t 15), (.t 17)]), none⟩,
    ⟨(some 12), (.mv (.t 18)), none⟩,
    ⟨(some 19), (.ext (.t 12) 0), none⟩,
    ⟨(some 20), (.ext (.t 12) 1), none⟩,
    ⟨(some 21), (.ext (.t 12) 2), none⟩,
    ⟨(some 7), (.mv (.t 19)), none⟩,
    ⟨(some 8), (.mv (.t 20)), none⟩,
    ⟨(some 9), (.mv (.t 21)), none⟩])
  (.seq (.seq (.ops [⟨(some 22), (.mv (.t 0)), none⟩,
    ⟨(some 23), (.mv (.t 2)), none⟩,
    ⟨(some 24), (.call (.k (.fn (.func 28) [] [])) [(.t 22), (.t 23)]), none⟩,
    ⟨(some 25), (.un .not (.t 24)), none⟩,
    ⟨(some 26), (.mv (.t 25)), none⟩,
    ⟨(some 27), (.mv (.t 1)), (some (26, false))⟩,
    ⟨(some 28), (.bin .lss (.t 27) (.k (I 0))), (some (26, false))⟩,
    ⟨(some 29), (.pick (.t 26) (.k (B true)) (.t 28)), none⟩,
    ⟨(some 30), (.mv (.t 29)), none⟩,
    ⟨(some 31), (.mv (.t 1)), (some (30, false))⟩,
    ⟨(some 32), (.mv (.t 0)), (some (30, false))⟩,
    ⟨(some 33), (.len (.t 32)), (some (30, false))⟩,
    ⟨(some 34), (.bin .geq (.t 31) (.t 33)), (some (30, false))⟩,
    ⟨(some 35), (.pick (.t 30) (.k (B true)) (.t 34)), none⟩])
  (.cond (.t 35)
    (.seq (.ops [⟨(some 36), (.mv (.t 7)), none⟩,
      ⟨(some 37), (.bin .eql (.t 36) (.k (I 0))), none⟩,
      ⟨(some 38), (.mv (.t 37)), none⟩,
      ⟨(some 39), (.mv (.t 8)), (some (38, true))⟩,
      ⟨(some 40), (.bin .eql (.t 39) (.k (I 0))), (some (38, true))⟩,
      ⟨(some 41), (.pick (.t 38) (.t 40) (.k (B false))), none⟩,
      ⟨(some 42), (.mv (.t 41)), none⟩,
      ⟨(some 43), (.mv (.t 9)), (some (42, true))⟩,
      ⟨(some 44), (.bin .eql (.t 43) (.k (I 2))), (some (42, true))⟩,
      ⟨(some 45), (.pick (.t 42) (.t 44) (.k (B false))), none⟩,
      ⟨(some 46), (.mv (.t 45)), none⟩,
      ⟨(some 47), (.call (.k (.fn (.func 19) [] [])) []), (some (46, true))⟩,
      ⟨(some 48), (.pick (.t 46) (.t 47) (.k (B false))), none⟩,
      ⟨(some 6), (.mv (.t 48)), none⟩])
    .ret)
    .skip))
  (.seq (.ops [⟨(some 50), (.mv (.t 0)), none⟩,
    ⟨(some 51), (.mv (.t 1)), none⟩,
    ⟨(some 52), (.mv (.t 2)), none⟩,
    ⟨(some 53), (.call (.k (.fn (.func 29) [] [])) [(.t 50), (.t 51), (.t 52)]), none⟩,
    ⟨(some 49), (.mv (.t 53)), none⟩,
    ⟨(some 54), (.ext (.t 49) 0), none⟩,
    ⟨(some 55), (.ext (.t 49) 1), none⟩,
    ⟨(some 10), (.mv (.t 54)), none⟩,
    ⟨(some 11), (.mv (.t 55)), none⟩])
  (.seq (.ops [⟨(some 56), (.mv (.t 7)), none⟩,
    ⟨(some 57), (.mv (.t 10)), none⟩,
    ⟨(some 58), (.bin .eql (.t 56) (.t 57)), none⟩,
    ⟨(some 59), (.mv (.t 58)), none⟩,
    ⟨(some 60), (.mv (.t 8)), (some (59, true))⟩,
    ⟨(some 61), (.mv (.t 11)), (some (59, true))⟩,
    ⟨(some 62), (.bin .eql (.t 60) (.t 61)), (some (59, true))⟩,
    ⟨(some 63), (.pick (.t 59) (.t 62) (.k (B false))), none⟩,
    ⟨(some 64), (.mv (.t 63)), none⟩,
    ⟨(some 65), (.mv (.t 9)), (some (64, true))⟩,
    ⟨(some 66), (.bin .eql (.t 65) (.k (I 0))), (some (64, true))⟩,
    ⟨(some 67), (.pick (.t 64) (.t 66) (.k (B false))), none⟩,
    ⟨(some 68), (.mv (.t 67)), none⟩,
    ⟨(some 69), (.call (.k (.fn (.func 19) [] [])) []), (some (68, true))⟩,
    ⟨(some 70), (.pick (.t 68) (.t 69) (.k (B false))), none⟩,
    ⟨(some 6), (.mv (.t 70)), none⟩])
  .ret)))))
theorem w5 {x : Cx} {Q : QT} {ks : List Kont} {fr : Fr} {H : AHeap} {ms : List Nat} : W x Q c5 ks fr H ms = W x Q (.seq (.ops [⟨(some 6), (.mv (.k (B false))), none⟩])
    (.seq (.ops [⟨(some 13), (.mv (.t 0)), none⟩,
      ⟨(some 14), (.call (.k (.fn (.func 16) [] [])) [(.t 13)]), none⟩,
      ⟨(some 15), (.mv (.t 1)), none⟩,
      ⟨(some 16), (.mv (.t 2)), none⟩,
      ⟨(some 17), (.call (.k (.fn (.func 27) [] [])) [(.t 16)]), none⟩,
      ⟨(some 18), (.call (.k (.fn (.func 26) [] [])) [(.t 14), (.t 15), (.t 17)]), none⟩,
      ⟨(some 12), (.mv (.t 18)), none⟩,
      ⟨(some 19), (.ext (.t 12) 0), none⟩,
      ⟨(some 20), (.ext (.t 12) 1), none⟩,
      ⟨(some 21), (.ext (.t 12) 2), none⟩,
      ⟨(some 7), (.mv (.t 19)), none⟩,
      ⟨(some 8), (.mv (.t 20)), none⟩,
      ⟨(some 9), (.mv (.t 21)), none⟩])
    (.seq (.seq (.ops [⟨(some 22), (.mv (.t 0)), none⟩,
      ⟨(some 23), (.mv (.t 2)), none⟩,
      ⟨(some 24), (.call (.k (.fn (.func 28) [] [])) [(.t 22), (.t 23)]), none⟩,
      ⟨(some 25), (.un .not (.t 24)), none⟩,
      ⟨(some 26), (.mv (.t 25)), none⟩,
      ⟨(some 27), (.mv (.t 1)), (some (26, false))⟩,
      ⟨(some 28), (.bin .lss (.t 27) (.k (I 0))), (some (26, false))⟩,
      ⟨(some 29), (.pick (.t 26) (.k (B true)) (.t 28)), none⟩,
      ⟨(some 30), (.mv (.t 29)), none⟩,
      ⟨(some 31), (.mv (.t 1)), (some (30, false))⟩,
      ⟨(some 32), (.mv (.t 0)), (some (30, false))⟩,
      ⟨(some 33), (.len (.t 32)), (some (30, false))⟩,
      ⟨(some 34), (.bin .geq (.t 31) (.t 33)), (some (30, false))⟩,
      ⟨(some 35), (.pick (.t 30) (.k (B true)) (.t 34)), none⟩])
    (.cond (.t 35)
      (.seq (.ops [⟨(some 36), (.mv (.t 7)), none⟩,
        ⟨(some 37), (.bin .eql (.t 36) (.k (I 0))), none⟩,
        ⟨(some 38), (.mv (.t 37)), none⟩,
        ⟨(some 39), (.mv (.t 8)), (some (38, true))⟩,
        ⟨(some 40), (.bin .eql (.t 39) (.k (I 0))), (some (38, true))⟩,
        ⟨(some 41), (.pick (.t 38) (.t 40) (.k (B false))), none⟩,
        ⟨(some 42), (.mv (.t 41)), none⟩,
        ⟨(some 43), (.mv (.t 9)), (some (42, true))⟩,
        ⟨(some 44), (.bin .eql (.t 43) (.k (I 2))), (some (42, true))⟩,
        ⟨(some 45), (.pick (.t 42) (.t 44) (.k (B false))), none⟩,
        ⟨(some 46), (.mv (.t 45)), none⟩,
        ⟨(some 47), (.call (.k (.fn (.func 19) [] [])) []), (some (46, true))⟩,
        ⟨(some 48), (.pick (.t 46) (.t 47) (.k (B false))), none⟩,
        ⟨(some 6), (.mv (.t 48)), none⟩])
      .ret)
      .skip))
    (.seq (.ops [⟨(some 50), (.mv (.t 0)), none⟩,
      ⟨(some 51), (.mv (.t 1)), none⟩,
      ⟨(some 52), (.mv (.t 2)), none⟩,
      ⟨(some 53), (.call (.k (.fn (.func 29) [] [])) [(.t 50), (.t 51), (.t 52)]), none⟩,
      ⟨(some 49), (.mv (.t 53)), none⟩,
      ⟨(some 54), (.ext (.t 49) 0), none⟩,
      ⟨(some 55), (.ext (.t 49) 1), none⟩,
      ⟨(some 10), (.mv (.t 54)), none⟩,
      ⟨(some 11), (.mv (.t 55)), none⟩])
    (.seq (.ops [⟨(some 56), (.mv (.t 7)), none⟩,
      ⟨(some 57), (.mv (.t 10)), none⟩,
      ⟨(some 58), (.bin .eql (.t 56) (.t 57)), none⟩,
      ⟨(some 59), (.mv (.t 58)), none⟩,
      ⟨(some 60), (.mv (.t 8)), (some (59, true))⟩,
      ⟨(some 61), (.mv (.t 11)), (some (59, true))⟩,
      ⟨(some 62), (.bin .eql (.t 60) (.t 61)), (some (59, true))⟩,
      ⟨(some 63), (.pick (.t 59) (.t 62) (.k (B false))), none⟩,
      ⟨(some 64), (.mv (.t 63)), none⟩,
      ⟨(some 65), (.mv (.t 9)), (some (64, true))⟩,
      ⟨(some 66), (.bin .eql (.t 65) (.k (I 0))), (some (64, true))⟩,
      ⟨(some 67), (.pick (.t 64) (.t 66) (.k (B false))), none⟩,
      ⟨(some 68), (.mv (.t 67)), none⟩,
      ⟨(some 69), (.call (.k (.fn (.func 19) [] [])) []), (some (68, true))⟩,
      ⟨(some 70), (.pick (.t 68) (.t 69) (.k (B false))), none⟩,
      ⟨(some 6), (.mv (.t 70)), none⟩])
    .ret))))) ks fr H ms := rfl
def r5 : List IRes := [(.tmp 6)]
theorem t5 : Try.f5.body.bind (trCode Try.prog Try.f5.ntmps) = some (strip c5) := by kernel_rfl
theorem q5 : trRes Try.prog Try.f5.results.toList = some r5 := by kernel_rfl
theorem fn5 : Try.prog.funcs[5]? = some Try.f5 := by kernel_rfl
theorem nn5 : (Try.f5.name == "runtime.NumGoroutine") = false := by kernel_rfl
theorem nt5 : Try.f5.ntmps = 71 := by kernel_rfl
def c6 : ICode :=
  (.seq (.ops [⟨(some 6), (.mv (.k (B false))), none⟩])
  (.seq (.ops [⟨(some 16), (.mv (.t 0)), none⟩,
    ⟨(some 17), (.call (.k (.fn (.func 16) [] [])) [(.t 16)]), none⟩,
    ⟨(some 18), (.mv (.t 1)), none⟩,
    ⟨(some 19), (.mv (.t 2)), none⟩,
    ⟨(some 20), (.call (.k (.fn (.func 27) [] [])) [(.t 19)]), none⟩,
    ⟨(some 21), (.call (.k (.fn (.func 26) [] [])) [(.t 17), (.t 18), (.t 20)]), none⟩,
    ⟨(some 15), (.mv (.t 21)), none⟩,
    ⟨(some 22), (.ext (.t 15) 0), none⟩,
    ⟨(some 23), (.ext (.t 15) 1), none⟩,
    ⟨(some 24), (.ext (.t 15) 2), none⟩,
    ⟨(some 7), (.mv (.t 22)), none⟩,
    ⟨(some 8), (.mv (.t 23)), none⟩,
    ⟨(some 9), (.mv (.t 24)), none⟩])
  (.seq (.seq (.ops [⟨(some 25), (.mv (.t 9)), none⟩,
    ⟨(some 26), (.bin .neq (.t 25) (.k (I 0))), none⟩,
    ⟨(some 27), (.mv (.t 26)), none⟩,
    ⟨(some 28), (.mv (.t 0)), (some (27, false))⟩,
    ⟨(some 29), (.mv (.t 2)), (some (27, false))⟩,
    ⟨(some 30), (.call (.k (.fn (.func 28) [] [])) [(.t 28), (.t 29)]), (some (27, false))⟩,
    ⟨(some 31), (.un .not (.t 30)), (some (27, false))⟩,
    ⟨(some 32), (.pick (.t 27) (.k (B true)) (.t 31)), none⟩,
    ⟨(some 33), (.mv (.t 32)), none⟩,
    ⟨(some 34), (.mv (.t 1)), (some (33, false))⟩,
    ⟨(some 35), (.bin .lss (.t 34) (.k (I 0))), (some (33, false))⟩,
    ⟨(some 36), (.pick (.t 33) (.k (B true)) (.t 35)), none⟩,
    ⟨(some 37), (.mv (.t 36)), none⟩,
    ⟨(some 38), (.mv (.t 1)), (some (37, false))⟩,
    ⟨(some 39), (.mv (.t 0)), (some (37, false))⟩,
    ⟨(some 40), (.len (.t 39)), (some (37, false))⟩,
    ⟨(some 41), (.bin .geq (.t 38) (.t 40)), (some (37, false))⟩,
    ⟨(some 42), (.pick (.t 37) (.k (B true)) (.t 41)), none⟩])
  (.cond (.t 42)
    (.seq (.ops [⟨(some 43), (.mv (.t 9)), none⟩,
      ⟨(some 44), (.bin .eql (.t 43) (.k (I 2))), none⟩,
      ⟨(some 45), (.mv (.t 44)), none⟩,
      ⟨(some 46), (.call (.k (.fn (.func 19) [] [])) []), (some (45, true))⟩,
      ⟨(some 47), (.pick (.t 45) (.t 46) (.k (B false))), none⟩,
      ⟨(some 6), (.mv (.t 47)), none⟩])
    .ret)
    .skip))
  (.seq (.ops [⟨(some 49), (.mv (.t 0)), none⟩,
    ⟨(some 50), (.call (.k (.fn (.func 16) [] [])) [(.t 49)]), none⟩,
    ⟨(some 51), (.call (.k (.fn (.func 15) [] [])) [(.t 50)]), none⟩,
    ⟨(some 48), (.mv (.t 51)), none⟩,
    ⟨(some 52), (.ext (.t 48) 0), none⟩,
    ⟨(some 53), (.ext (.t 48) 1), none⟩,
    ⟨(some 10), (.mv (.t 52)), none⟩,
    ⟨(some 11), (.mv (.t 53)), none⟩])
  (.seq (.ops [⟨(some 54), (.mv (.t 0)), none⟩,
    ⟨(some 55), (.call (.k (.fn (.func 16) [] [])) [(.t 54)]), none⟩,
    ⟨(some 12), (.mv (.t 55)), none⟩])
  (.seq (.ops [⟨(some 56), (.mv (.t 12)), none⟩,
    ⟨(some 57), (.mv (.t 1)), none⟩,
    ⟨(some 58), (.mv (.t 2)), none⟩,
    ⟨(some 59), (.call (.k (.fn (.func 27) [] [])) [(.t 58)]), none⟩,
    ⟨(some 60), (.ixS 1 (.t 56) (.t 57)), none⟩,
    ⟨none, (.store 1 (.t 60) (.t 59)), none⟩])
  (.seq (.ops [⟨(some 62), (.mv (.t 12)), none⟩,
    ⟨(some 63), (.call (.k (.fn (.func 15) [] [])) [(.t 62)]), none⟩,
    ⟨(some 61), (.mv (.t 63)), none⟩,
    ⟨(some 64), (.ext (.t 61) 0), none⟩,
    ⟨(some 65), (.ext (.t 61) 1), none⟩,
    ⟨(some 13), (.mv (.t 64)), none⟩,
    ⟨(some 14), (.mv (.t 65)), none⟩])
  (.seq (.ops [⟨(some 66), (.mv (.t 11)), none⟩,
    ⟨(some 67), (.bin .eql (.t 66) (.k (I 0))), none⟩,
    ⟨(some 68), (.mv (.t 67)), none⟩,
    ⟨(some 69), (.mv (.t 14)), (some (68, true))⟩,
    ⟨(some 70), (.bin .eql (.t 69) (.k (I 0))), (some (68, true))⟩,
    ⟨(some 71), (.pick (.t 68) (.t 70) (.k (B false))), none⟩,
    ⟨(some 72), (.mv (.t 71)), none⟩,
    ⟨(some 73), (.mv (.t 10)), (some (72, true))⟩,
    ⟨(some 74), (.mv (.t 0)), (some (72, true))⟩,
    ⟨(some 75), (.len (.t 74)), (some (72, true))⟩,
    ⟨(some 76), (.call (.k (.fn (.func 23) [] [])) [(.t 73), (.t 75)]), (some (72, true))⟩,
    ⟨(some 77), (.pick (.t 72) (.t 76) (.k (B false))), none⟩,
    ⟨(some 78), (.mv (.t 77)), none⟩,
    ⟨(some 79), (.mv (.t 13)), (some (78, true))⟩,
    ⟨(some 80), (.mv (.t 0)), (some (78, true))⟩,
    ⟨(some 81), (.len (.t 80)), (some (78, true))⟩,
    ⟨(some 82), (.call (.k (.fn (.func 23) [] [])) [(.t 79), (.t 81)]), (some (78, true))⟩,
    ⟨(some 83), (.pick (.t 78) (.t 82) (.k (B false))), none⟩,
    ⟨(some 84), (.mv (.t 83)), none⟩,
    ⟨(some 85), (.mv (.t 7)), (some (84, true))⟩,
    ⟨(some 86), (.mv (.t 0)), (some (84, true))⟩,
    ⟨(some 87), (.mv (.t 1)), (some (84, true))⟩,
    ⟨(some 88), (.mv (.t 10)), (some (84, true))⟩,
    ⟨(some 89), (.mv (.t 1)), (some (84, true))⟩,
    ⟨(some 90), (.ixS 1 (.t 88) (.t 89)), (some (84, true))⟩,
    ⟨(some 91), (.load false 1 (.t 90)), (some (84, true))⟩,
    ⟨(some 92), (.call (.k (.fn (.func 24) [] [])) [(.t 86), (.t 87), (.t 91)]), (some (84, true))⟩,
    ⟨(some 93), (.bin .eql (.t 85) (.t 92)), (some (84, true))⟩,
    ⟨(some 94), (.pick (.t 84) (.t 93) (.k (B false))), none⟩,
    ⟨(some 95), (.mv (.t 94)), none⟩,
    ⟨(some 96), (.mv (.t 8)), (some (95, true))⟩,
    ⟨(some 97), (.mv (.t 0)), (some (95, true))⟩,
    ⟨(some 98), (.mv (.t 1)), (some (95, true))⟩,
    ⟨(some 99), (.mv (.t 13)), (some (95, true))⟩,
    ⟨(some 100), (.mv (.t 1)), (some (95, true))⟩,
    ⟨(some 101), (.ixS 1 (.t 99) (.t 100)), (some (95, true))⟩,
    ⟨(some 102), (.load false 1 (.t 101)), (some (95, true))⟩,
    ⟨(some 103), (.call (.k (.fn (.func 24) [] [])) [(.t 97), (.t 98), (.t 102)]), (some (95, true))⟩,
    ⟨(some 104), (.bin .eql (.t 96) (.t 103)), (some (95, true))⟩,
    ⟨(some 105), (.pick (.t 95) (.t 104) (.k (B false))), none⟩,
    ⟨(some 106), (.mv (.t 105)), none⟩,
    ⟨(some 107), (.mv (.t 7)), (some (106, true))⟩,
    ⟨(some 108), (.mv (.t 8)), (some (106, true))⟩,
    ⟨(some 109), (.bin .leq (.t 107) (.t 108)), (some (106, true))⟩,
    ⟨(some 110), (.pick (.t 106) (.t 109) (.k (B false))), none⟩,
    ⟨(some 111), (.mv (.t 110)), none⟩,
    ⟨(some 112), (.call (.k (.fn (.func 19) [] [])) []), (some (111, true))⟩,
    ⟨(some 113), (.pick (.t 111) (.t 112) (.k (B false))), none⟩,
    ⟨(some 6), (.mv (.t 113)), none⟩])
  .ret))))))))
theorem w6 {x : Cx} {Q : QT} {ks : List Kont} {fr : Fr} {H : AHeap} {ms : List Nat} : W x Q c6 ks fr H ms = W x Q (.seq (.ops [⟨(some 6), (.mv (.k (B false))), none⟩])
    (.seq (.ops [⟨(some 16), (.mv (.t 0)), none⟩,
      ⟨(some 17), (.call (.k (.fn (.func 16) [] [])) [(.t 16)]), none⟩,
      ⟨(some 18), (.mv (.t 1)), none⟩,
      ⟨(some 19), (.mv (.t 2)), none⟩,
      ⟨(some 20), (.call (.k (.fn (.func 27) [] [])) [(.t 19)]), none⟩,
      ⟨(some 21), (.call (.k (.fn (.func 26) [] [])) [(.t 17), (.t 18), (.t 20)]), none⟩,
      ⟨(some 15), (.mv (.t 21)), none⟩,
      ⟨(some 22), (.ext (.t 15) 0), none⟩,
      ⟨(some 23), (.ext (.t 15) 1), none⟩,
      ⟨(some 24), (.ext (.t 15) 2), none⟩,
      ⟨(some 7), (.mv (.t 22)), none⟩,
      ⟨(some 8), (.mv (.t 23)), none⟩,
      ⟨(some 9), (.mv (.t 24)), none⟩])
    (.seq (.seq (.ops [⟨(some 25), (.mv (.t 9)), none⟩,
      ⟨(some 26), (.bin .neq (.t 25) (.k (I 0))), none⟩,
      ⟨(some 27), (.mv (.t 26)), none⟩,
      ⟨(some 28), (.mv (.t 0)), (some (27, false))⟩,
      ⟨(some 29), (.mv (.t 2)), (some (27, false))⟩,
      ⟨(some 30), (.call (.k (.fn (.func 28) [] [])) [(.t 28), (.t 29)]), (some (27, false))⟩,
      ⟨(some 31), (.un .not (.t 30)), (some (27, false))⟩,
      ⟨(some 32), (.pick (.t 27) (.k (B true)) (.t 31)), none⟩,
      ⟨(some 33), (.mv (.t 32)), none⟩,
      ⟨(some 34), (.mv (.t 1)), (some (33, false))⟩,
      ⟨(some 35), (.bin .lss (.t 34) (.k (I 0))), (some (33, false))⟩,
      ⟨(some 36), (.pick (.t 33) (.k (B true)) (.t 35)), none⟩,
      ⟨(some 37), (.mv (.t 36)), none⟩,
      ⟨(some 38), (.mv (.t 1)), (some (37, false))⟩,
      ⟨(some 39), (.mv (.t 0)), (some (37, false))⟩,
      ⟨(some 40), (.len (.t 39)), (some (37, false))⟩,
      ⟨(some 41), (.bin .geq (.t 38) (.t 40)), (some (37, false))⟩,
      ⟨(some 42), (.pick (.t 37) (.k (B true)) (.t 41)), none⟩])
    (.cond (.t 42)
      (.seq (.ops [⟨(some 43), (.mv (.t 9)), none⟩,
        ⟨(some 44), (.bin .eql (.t 43) (.k (I 2))), none⟩,
        ⟨(some 45), (.mv (.t 44)), none⟩,
        ⟨(some 46), (.call (.k (.fn (.func 19) [] [])) []), (some (45, true))⟩,
        ⟨(some 47), (.pick (.t 45) (.t 46) (.k (B false))), none⟩,
        ⟨(some 6), (.mv (.t 47)), none⟩])
      .ret)
      .skip))
    (.seq (.ops [⟨(some 49), (.mv (.t 0)), none⟩,
      ⟨(some 50), (.call (.k (.fn (.func 16) [] [])) [(.t 49)]), none⟩,
      ⟨(some 51), (.call (.k (.fn (.func 15) [] [])) [(.t 50)]), none⟩,
      ⟨(some 48), (.mv (.t 51)), none⟩,
      ⟨(some 52), (.ext (.t 48) 0), none⟩,
      ⟨(some 53), (.ext (.t 48) 1), none⟩,
      ⟨(some 10), (.mv (.t 52)), none⟩,
      ⟨(some 11), (.mv (.t 53)), none⟩])
    (.seq (.ops [⟨(some 54), (.mv (.t 0)), none⟩,
      ⟨(some 55), (.call (.k (.fn (.func 16) [] [])) [(.t 54)]), none⟩,
      ⟨(some 12), (.mv (.t 55)), none⟩])
    (.seq (.ops [⟨(some 56), (.mv (.t 12)), none⟩,
      ⟨(some 57), (.mv (.t 1)), none⟩,
      ⟨(some 58), (.mv (.t 2)), none⟩,
      ⟨(some 59), (.call (.k (.fn (.func 27) [] [])) [(.t 58)]), none⟩,
      ⟨(some 60), (.ixS 1 (.t 56) (.t 57)), none⟩,
      ⟨none, (.store 1 (.t 60) (.t 59)), none⟩])
    (.seq (.ops [⟨(some 62), (.mv (.t 12)), none⟩,
      ⟨(some 63), (.call (.k (.fn (.func 15) [] [])) [(.t 62)]), none⟩,
      ⟨(some 61), (.mv (.t 63)), none⟩,
      ⟨(some 64), (.ext (.t 61) 0), none⟩,
      ⟨(some 65), (.ext (.t 61) 1), none⟩,
      ⟨(some 13), (.mv (.t 64)), none⟩,
      ⟨(some 14), (.mv (.t 65)), none⟩])
    (.seq (.ops [⟨(some 66), (.mv (.t 11)), none⟩,
      ⟨(some 67), (.bin .eql (.t 66) (.k (I 0))), none⟩,
      ⟨(some 68), (.mv (.t 67)), none⟩,
      ⟨(some 69), (.mv (.t 14)), (some (68, true))⟩,
      ⟨(some 70), (.bin .eql (.t 69) (.k (I 0))), (some (68, true))⟩,
      ⟨(some 71), (.pick (.t 68) (.t 70) (.k (B false))), none⟩,
      ⟨(some 72), (.mv (.t 71)), none⟩,
      ⟨(some 73), (.mv (.t 10)), (some (72, true))⟩,
      ⟨(some 74), (.mv (.t 0)), (some (72, true))⟩,
      ⟨(some 75), (.len (.t 74)), (some (72, true))⟩,
      ⟨(some 76), (.call (.k (.fn (.func 23) [] [])) [(.t 73), (.t 75)]), (some (72, true))⟩,
      ⟨(some 77), (.pick (.t 72) (.t 76) (.k (B false))), none⟩,
      ⟨(some 78), (.mv (.t 77)), none⟩,
      ⟨(some 79), (.mv (.t 13)), (some (78, true))⟩,
      ⟨(some 80), (.mv (.t 0)), (some (78, true))⟩,
      ⟨(some 81), (.len (.t 80)), (some (78, true))⟩,
      ⟨(some 82), (.call (.k (.fn (.func 23) [] [])) [(.t 79), (.t 81)]), (some (78, true))⟩,
      ⟨(some 83), (.pick (.t 78) (.t 82) (.k (B false))), none⟩,
      ⟨(some 84), (.mv (.t 83)), none⟩,
      ⟨(some 85), (.mv (.t 7)), (some (84, true))⟩,
      ⟨(some 86), (.mv (.t 0)), (some (84, true))⟩,
      ⟨(some 87), (.mv (.t 1)), (some (84, true))⟩,
      ⟨(some 88), (.mv (.t 10)), (some (84, true))⟩,
      ⟨(some 89), (.mv (.t 1)), (some (84, true))⟩,
      ⟨(some 90), (.ixS 1 (.t 88) (.t 89)), (some (84, true))⟩,
      ⟨(some 91), (.load false 1 (.t 90)), (some (84, true))⟩,
      ⟨(some 92), (.call (.k (.fn (.func 24) [] [])) [(.t 86), (.t 87), (.t 91)]), (some (84, true))⟩,
      ⟨(some 93), (.bin .eql (.t 85) (.t 92)), (some (84, true))⟩,
      ⟨(some 94), (.pick (.t 84) (.t 93) (.k (B false))), none⟩,
      ⟨(some 95), (.mv (.t 94)), none⟩,
      ⟨(some 96), (.mv (.t 8)), (some (95, true))⟩,
      ⟨(some 97), (.mv (.t 0)), (some (95, true))⟩,
      ⟨(some 98), (.mv (.t 1)), (some (95, true))⟩,
      ⟨(some 99), (.mv (.t 13)), (some (95, true))⟩,
      ⟨(some 100), (.mv (.t 1)), (some (95, true))⟩,
      ⟨(some 101), (.ixS 1 (.t 99) (.t 100)), (some (95, true))⟩,
      ⟨(some 102), (.load false 1 (.t 101)), (some (95, true))⟩,
      ⟨(some 103), (.call (.k (.fn (.func 24) [] [])) [(.t 97), (.t 98), (.t 102)]), (some (95, true))⟩,
      ⟨(some 104), (.bin .eql (.t 96) (.t 103)), (some (95, true))⟩,
      ⟨(some 105), (.pick (.t 95) (.t 104) (.k (B false))), none⟩,
      ⟨(some 106), (.mv (.t 105)), none⟩,
      ⟨(some 107), (.mv (.t 7)), (some (106, true))⟩,
      ⟨(some 108), (.mv (.t 8)), (some (106, true))⟩,
      ⟨(some 109), (.bin .leq (.t 107) (.t 108)), (some (106, true))⟩,
      ⟨(some 110), (.pick (.t 106) (.t 109) (.k (B false))), none⟩,
      ⟨(some 111), (.mv (.t 110)), none⟩,
      ⟨(some 112), (.call (.k (.fn (.func 19) [] [])) []), (some (111, true))⟩,
      ⟨(some 113), (.pick (.t 111) (.t 112) (.k (B false))), none⟩,
      ⟨(some 6), (.mv (.t 113)), none⟩])
    .ret)))))))) ks fr H ms := rfl
def r6 : List IRes := [(.tmp 6)]
theorem t6 : Try.f6.body.bind (trCode Try.prog Try.f6.ntmps) = some (strip c6) := by kernel_rfl
theorem q6 : trRes Try.prog Try.f6.results.toList = some r6 := by kernel_rfl
theorem fn6 : Try.prog.funcs[6]? = some Try.f6 := by kernel_rfl
theorem nn6 : (Try.f6.name == "runtime.NumGoroutine") = false := by kernel_rfl
theorem nt6 : Try.f6.ntmps = 114 := by kernel_rfl
end Go.Proofs.Ytkmmngphcodjjaa
