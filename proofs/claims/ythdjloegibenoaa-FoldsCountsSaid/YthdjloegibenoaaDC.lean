/- The code of some functions of the program, cleaned: printed by a program of mine, checked here. -/
import Derived.Test.YthdjloegibenoaaProg
import Derived.Test.YthdjloegibenoaaAS
import Derived.KernelRfl
import Derived.Test.YthdjloegibenoaaDB
namespace Go.Proofs.Ythdjloegibenoaa
open Go.Abs AVal
def c66T4 : ICode :=
  (.keep [5] (.seq (.ops [⟨(some 49), (.mv (.t 5)), none⟩,
    ⟨(some 4), (.mv (.t 49)), none⟩])
  .ret))
theorem w66T4 {x : Cx} {Q : QT} {ks : List Kont} {fr : Fr} {H : AHeap} {ms : List Nat} : W x Q c66T4 ks fr H ms = W x Q (.keep [5] (.seq (.ops [⟨(some 49), (.mv (.t 5)), none⟩,
      ⟨(some 4), (.mv (.t 49)), none⟩])
    .ret)) ks fr H ms := rfl
def c66T3 : ICode :=
  (.keep [0, 1, 5, 16, 17] (.ops [⟨(some 48), (.bin .add (.t 17) (.k (I 1))), none⟩,
    ⟨(some 17), (.mv (.t 48)), none⟩]))
theorem w66T3 {x : Cx} {Q : QT} {ks : List Kont} {fr : Fr} {H : AHeap} {ms : List Nat} : W x Q c66T3 ks fr H ms = W x Q (.keep [0, 1, 5, 16, 17] (.ops [⟨(some 48), (.bin .add (.t 17) (.k (I 1))), none⟩,
      ⟨(some 17), (.mv (.t 48)), none⟩])) ks fr H ms := rfl
def c66T2 : ICode :=
  (.keep [0, 1, 5, 6, 7, 16, 17] (.seq (.ops [⟨(some 33), (.mv (.t 7)), none⟩,
    ⟨(some 34), (.un .not (.t 33)), none⟩])
  (.cond (.t 34)
    (.ops [⟨(some 35), (.mv (.t 5)), none⟩,
      ⟨(some 36), (.mv (.t 0)), none⟩,
      ⟨(some 37), (.mv (.t 1)), none⟩,
      ⟨(some 38), (.mv (.t 1)), none⟩,
      ⟨(some 39), (.len (.t 38)), none⟩,
      ⟨(some 40), (.mv (.t 1)), none⟩,
      ⟨(some 41), (.len (.t 40)), none⟩,
      ⟨(some 42), (.slS 1 (.t 37) none (some (.t 39)) (some (.t 41))), none⟩,
      ⟨(some 43), (.mv (.t 6)), none⟩,
      ⟨(some 44), (.bslice 1 1 [(I 0)] [(0, 1, (.t 43))]), none⟩,
      ⟨(some 45), (.append 1 8 (.t 42) (.t 44)), none⟩,
      ⟨(some 46), (.call (.k (.fn (.func 66) [] [])) [(.t 36), (.t 45)]), none⟩,
      ⟨(some 47), (.append 1 24 (.t 35) (.t 46)), none⟩,
      ⟨(some 5), (.mv (.t 47)), none⟩])
    .skip)))
theorem w66T2 {x : Cx} {Q : QT} {ks : List Kont} {fr : Fr} {H : AHeap} {ms : List Nat} : W x Q c66T2 ks fr H ms = W x Q (.keep [0, 1, 5, 6, 7, 16, 17] (.seq (.ops [⟨(some 33), (.mv (.t 7)), none⟩,
      ⟨(some 34), (.un .not (.t 33)), none⟩])
    (.cond (.t 34)
      (.ops [⟨(some 35), (.mv (.t 5)), none⟩,
        ⟨(some 36), (.mv (.t 0)), none⟩,
        ⟨(some 37), (.mv (.t 1)), none⟩,
        ⟨(some 38), (.mv (.t 1)), none⟩,
        ⟨(some 39), (.len (.t 38)), none⟩,
        ⟨(some 40), (.mv (.t 1)), none⟩,
        ⟨(some 41), (.len (.t 40)), none⟩,
        ⟨(some 42), (.slS 1 (.t 37) none (some (.t 39)) (some (.t 41))), none⟩,
        ⟨(some 43), (.mv (.t 6)), none⟩,
        ⟨(some 44), (.bslice 1 1 [(I 0)] [(0, 1, (.t 43))]), none⟩,
        ⟨(some 45), (.append 1 8 (.t 42) (.t 44)), none⟩,
        ⟨(some 46), (.call (.k (.fn (.func 66) [] [])) [(.t 36), (.t 45)]), none⟩,
        ⟨(some 47), (.append 1 24 (.t 35) (.t 46)), none⟩,
        ⟨(some 5), (.mv (.t 47)), none⟩])
      .skip))) ks fr H ms := rfl
/- live: [0, 1, 5, 6, 7, 16, 17, 20, 21, 22] -/
def c66L1 : ICode :=
  (.seq (.ops [⟨(some 23), (.bin .lss (.t 22) (.t 21)), none⟩])
  (.seq (.cond (.t 23)
    .skip
    (.exit 2))
  (.seq (.block 3 (.seq (.ops [⟨(some 24), (.ixS 1 (.t 20) (.t 22)), none⟩,
    ⟨(some 25), (.load false 1 (.t 24)), none⟩,
    ⟨(some 9), (.mv (.t 25)), none⟩])
  (.ops [⟨(some 26), (.mv (.t 7)), none⟩,
    ⟨(some 27), (.mv (.t 26)), none⟩,
    ⟨(some 28), (.mv (.t 6)), (some (27, false))⟩,
    ⟨(some 29), (.mv (.t 9)), (some (27, false))⟩,
    ⟨(some 30), (.bin .eql (.t 28) (.t 29)), (some (27, false))⟩,
    ⟨(some 31), (.pick (.t 27) (.k (B true)) (.t 30)), none⟩,
    ⟨(some 7), (.mv (.t 31)), none⟩])))
  (.ops [⟨(some 32), (.bin .add (.t 22) (.k (I 1))), none⟩,
    ⟨(some 22), (.mv (.t 32)), none⟩]))))
theorem w66L1 {x : Cx} {Q : QT} {ks : List Kont} {fr : Fr} {H : AHeap} {ms : List Nat} : W x Q c66L1 ks fr H ms = W x Q (.seq (.ops [⟨(some 23), (.bin .lss (.t 22) (.t 21)), none⟩])
    (.seq (.cond (.t 23)
      .skip
      (.exit 2))
    (.seq (.block 3 (.seq (.ops [⟨(some 24), (.ixS 1 (.t 20) (.t 22)), none⟩,
      ⟨(some 25), (.load false 1 (.t 24)), none⟩,
      ⟨(some 9), (.mv (.t 25)), none⟩])
    (.ops [⟨(some 26), (.mv (.t 7)), none⟩,
      ⟨(some 27), (.mv (.t 26)), none⟩,
      ⟨(some 28), (.mv (.t 6)), (some (27, false))⟩,
      ⟨(some 29), (.mv (.t 9)), (some (27, false))⟩,
      ⟨(some 30), (.bin .eql (.t 28) (.t 29)), (some (27, false))⟩,
      ⟨(some 31), (.pick (.t 27) (.k (B true)) (.t 30)), none⟩,
      ⟨(some 7), (.mv (.t 31)), none⟩])))
    (.ops [⟨(some 32), (.bin .add (.t 22) (.k (I 1))), none⟩,
      ⟨(some 22), (.mv (.t 32)), none⟩])))) ks fr H ms := rfl
/- live: [0, 1, 5, 16, 17] -/
def c66L0 : ICode :=
  (.seq (.ops [⟨(some 18), (.bin .lss (.t 17) (.t 16)), none⟩])
  (.seq (.cond (.t 18)
    .skip
    (.exit 0))
  (.seq (.block 1 (.seq (.ops [⟨(some 19), (.mv (.t 17)), none⟩,
    ⟨(some 6), (.mv (.t 19)), none⟩])
  (.seq (.ops [⟨(some 7), (.mv (.k (B false))), none⟩])
  (.seq (.seq (.ops [⟨(some 20), (.mv (.t 1)), none⟩,
    ⟨(some 21), (.len (.t 20)), none⟩,
    ⟨(some 22), (.mv (.k (I 0))), none⟩])
  (.block 2 (.loop c66L1)))
  c66T2))))
  c66T3)))
theorem w66L0 {x : Cx} {Q : QT} {ks : List Kont} {fr : Fr} {H : AHeap} {ms : List Nat} : W x Q c66L0 ks fr H ms = W x Q (.seq (.ops [⟨(some 18), (.bin .lss (.t 17) (.t 16)), none⟩])
    (.seq (.cond (.t 18)
      .skip
      (.exit 0))
    (.seq (.block 1 (.seq (.ops [⟨(some 19), (.mv (.t 17)), none⟩,
      ⟨(some 6), (.mv (.t 19)), none⟩])
    (.seq (.ops [⟨(some 7), (.mv (.k (B false))), none⟩])
    (.seq (.seq (.ops [⟨(some 20), (.mv (.t 1)), none⟩,
      ⟨(some 21), (.len (.t 20)), none⟩,
      ⟨(some 22), (.mv (.k (I 0))), none⟩])
    (.block 2 (.loop c66L1)))
    c66T2))))
    c66T3))) ks fr H ms := rfl
def c66 : ICode :=
  (.seq (.ops [⟨(some 4), (.mv (.k nilSl)), none⟩])
  (.seq (.seq (.ops [⟨(some 10), (.mv (.t 1)), none⟩,
    ⟨(some 11), (.len (.t 10)), none⟩,
    ⟨(some 12), (.mv (.t 0)), none⟩,
    ⟨(some 13), (.bin .eql (.t 11) (.t 12)), none⟩])
  (.cond (.t 13)
    (.seq (.ops [⟨(some 14), (.mv (.t 1)), none⟩,
      ⟨(some 15), (.bslice 1 1 [nilSl] [(0, 1, (.t 14))]), none⟩,
      ⟨(some 4), (.mv (.t 15)), none⟩])
    .ret)
    .skip))
  (.seq (.ops [⟨(some 5), (.mv (.k nilSl)), none⟩])
  (.seq (.seq (.ops [⟨(some 16), (.mv (.t 0)), none⟩,
    ⟨(some 17), (.mv (.k (I 0))), none⟩])
  (.block 0 (.loop c66L0)))
  c66T4))))
theorem w66 {x : Cx} {Q : QT} {ks : List Kont} {fr : Fr} {H : AHeap} {ms : List Nat} : W x Q c66 ks fr H ms = W x Q (.seq (.ops [⟨(some 4), (.mv (.k nilSl)), none⟩])
    (.seq (.seq (.ops [⟨(some 10), (.mv (.t 1)), none⟩,
      ⟨(some 11), (.len (.t 10)), none⟩,
      ⟨(some 12), (.mv (.t 0)), none⟩,
      ⟨(some 13), (.bin .eql (.t 11) (.t 12)), none⟩])
    (.cond (.t 13)
      (.seq (.ops [⟨(some 14), (.mv (.t 1)), none⟩,
        ⟨(some 15), (.bslice 1 1 [nilSl] [(0, 1, (.t 14))]), none⟩,
        ⟨(some 4), (.mv (.t 15)), none⟩])
      .ret)
      .skip))
    (.seq (.ops [⟨(some 5), (.mv (.k nilSl)), none⟩])
    (.seq (.seq (.ops [⟨(some 16), (.mv (.t 0)), none⟩,
      ⟨(some 17), (.mv (.k (I 0))), none⟩])
    (.block 0 (.loop c66L0)))
    c66T4)))) ks fr H ms := rfl
def r66 : List IRes := [(.tmp 4)]
theorem t66 : Try.f66.body.bind (trCode Try.prog Try.f66.ntmps) = some (strip c66) := by kernel_rfl
theorem q66 : trRes Try.prog Try.f66.results.toList = some r66 := by kernel_rfl
theorem fn66 : Try.prog.funcs[66]? = some Try.f66 := by kernel_rfl
theorem nn66 : (Try.f66.name == "runtime.NumGoroutine") = false := by kernel_rfl
theorem nt66 : Try.f66.ntmps = 50 := by kernel_rfl
def c29T1 : ICode :=
  (.keep [3] (.seq (.ops [⟨(some 20), (.mv (.t 3)), none⟩,
    ⟨(some 2), (.mv (.t 20)), none⟩])
  .ret))
theorem w29T1 {x : Cx} {Q : QT} {ks : List Kont} {fr : Fr} {H : AHeap} {ms : List Nat} : W x Q c29T1 ks fr H ms = W x Q (.keep [3] (.seq (.ops [⟨(some 20), (.mv (.t 3)), none⟩,
      ⟨(some 2), (.mv (.t 20)), none⟩])
    .ret)) ks fr H ms := rfl
/- live: [3, 7, 8, 9] -/
def c29L0 : ICode :=
  (.seq (.ops [⟨(some 10), (.bin .lss (.t 9) (.t 8)), none⟩])
  (.seq (.cond (.t 10)
    .skip
    (.exit 0))
  (.seq (.block 1 (.seq (.ops [⟨(some 11), (.ixS 1 (.t 7) (.t 9)), none⟩,
    ⟨(some 12), (.load false 1 (.t 11)), none⟩,
    ⟨(some 5), (.mv (.t 12)), none⟩])
  (.seq (.ops [⟨(some 13), (.mv (.t 5)), none⟩,
    ⟨(some 14), (.call (.k (.fn (.func 21) [] [])) [(.t 13)]), none⟩])
  (.cond (.t 14)
    (.ops [⟨(some 15), (.mv (.t 3)), none⟩,
      ⟨(some 16), (.mv (.t 5)), none⟩,
      ⟨(some 17), (.bslice 1 1 [nilSl] [(0, 1, (.t 16))]), none⟩,
      ⟨(some 18), (.append 1 24 (.t 15) (.t 17)), none⟩,
      ⟨(some 3), (.mv (.t 18)), none⟩])
    .skip))))
  (.ops [⟨(some 19), (.bin .add (.t 9) (.k (I 1))), none⟩,
    ⟨(some 9), (.mv (.t 19)), none⟩]))))
theorem w29L0 {x : Cx} {Q : QT} {ks : List Kont} {fr : Fr} {H : AHeap} {ms : List Nat} : W x Q c29L0 ks fr H ms = W x Q (.seq (.ops [⟨(some 10), (.bin .lss (.t 9) (.t 8)), none⟩])
    (.seq (.cond (.t 10)
      .skip
      (.exit 0))
    (.seq (.block 1 (.seq (.ops [⟨(some 11), (.ixS 1 (.t 7) (.t 9)), none⟩,
      ⟨(some 12), (.load false 1 (.t 11)), none⟩,
      ⟨(some 5), (.mv (.t 12)), none⟩])
    (.seq (.ops [⟨(some 13), (.mv (.t 5)), none⟩,
      ⟨(some 14), (.call (.k (.fn (.func 21) [] [])) [(.t 13)]), none⟩])
    (.cond (.t 14)
      (.ops [⟨(some 15), (.mv (.t 3)), none⟩,
        ⟨(some 16), (.mv (.t 5)), none⟩,
        ⟨(some 17), (.bslice 1 1 [nilSl] [(0, 1, (.t 16))]), none⟩,
        ⟨(some 18), (.append 1 24 (.t 15) (.t 17)), none⟩,
        ⟨(some 3), (.mv (.t 18)), none⟩])
      .skip))))
    (.ops [⟨(some 19), (.bin .add (.t 9) (.k (I 1))), none⟩,
      ⟨(some 9), (.mv (.t 19)), none⟩])))) ks fr H ms := rfl
def c29 : ICode :=
  (.seq (.ops [⟨(some 2), (.mv (.k nilSl)), none⟩])
  (.seq (.ops [⟨(some 3), (.mv (.k nilSl)), none⟩])
  (.seq (.seq (.ops [⟨(some 6), (.mv (.t 0)), none⟩,
    ⟨(some 7), (.call (.k (.fn (.func 66) [] [])) [(.t 6), (.k nilSl)]), none⟩,
    ⟨(some 8), (.len (.t 7)), none⟩,
    ⟨(some 9), (.mv (.k (I 0))), none⟩])
  (.block 0 (.loop c29L0)))
  c29T1)))
theorem w29 {x : Cx} {Q : QT} {ks : List Kont} {fr : Fr} {H : AHeap} {ms : List Nat} : W x Q c29 ks fr H ms = W x Q (.seq (.ops [⟨(some 2), (.mv (.k nilSl)), none⟩])
    (.seq (.ops [⟨(some 3), (.mv (.k nilSl)), none⟩])
    (.seq (.seq (.ops [⟨(some 6), (.mv (.t 0)), none⟩,
      ⟨(some 7), (.call (.k (.fn (.func 66) [] [])) [(.t 6), (.k nilSl)]), none⟩,
      ⟨(some 8), (.len (.t 7)), none⟩,
      ⟨(some 9), (.mv (.k (I 0))), none⟩])
    (.block 0 (.loop c29L0)))
    c29T1))) ks fr H ms := rfl
def r29 : List IRes := [(.tmp 2)]
theorem t29 : Try.f29.body.bind (trCode Try.prog Try.f29.ntmps) = some (strip c29) := by kernel_rfl
theorem q29 : trRes Try.prog Try.f29.results.toList = some r29 := by kernel_rfl
theorem fn29 : Try.prog.funcs[29]? = some Try.f29 := by kernel_rfl
theorem nn29 : (Try.f29.name == "runtime.NumGoroutine") = false := by kernel_rfl
theorem nt29 : Try.f29.ntmps = 21 := by kernel_rfl
def c30T1 : ICode :=
  (.keep [3] (.seq (.ops [⟨(some 20), (.mv (.t 3)), none⟩,
    ⟨(some 2), (.mv (.t 20)), none⟩])
  .ret))
theorem w30T1 {x : Cx} {Q : QT} {ks : List Kont} {fr : Fr} {H : AHeap} {ms : List Nat} : W x Q c30T1 ks fr H ms = W x Q (.keep [3] (.seq (.ops [⟨(some 20), (.mv (.t 3)), none⟩,
      ⟨(some 2), (.mv (.t 20)), none⟩])
    .ret)) ks fr H ms := rfl
/- live: [3, 7, 8, 9] -/
def c30L0 : ICode :=
  (.seq (.ops [⟨(some 10), (.bin .lss (.t 9) (.t 8)), none⟩])
  (.seq (.cond (.t 10)
    .skip
    (.exit 0))
  (.seq (.block 1 (.seq (.ops [⟨(some 11), (.ixS 1 (.t 7) (.t 9)), none⟩,
    ⟨(some 12), (.load false 1 (.t 11)), none⟩,
    ⟨(some 5), (.mv (.t 12)), none⟩])
  (.seq (.ops [⟨(some 13), (.mv (.t 5)), none⟩,
    ⟨(some 14), (.ixS 1 (.t 13) (.k (I 0))), none⟩,
    ⟨(some 15), (.load false 1 (.t 14)), none⟩,
    ⟨(some 16), (.bin .eql (.t 15) (.k (I 0))), none⟩])
  (.cond (.t 16)
    (.ops [⟨(some 17), (.mv (.t 3)), none⟩,
      ⟨(some 18), (.bin .add (.t 17) (.k (I 1))), none⟩,
      ⟨(some 3), (.mv (.t 18)), none⟩])
    .skip))))
  (.ops [⟨(some 19), (.bin .add (.t 9) (.k (I 1))), none⟩,
    ⟨(some 9), (.mv (.t 19)), none⟩]))))
theorem w30L0 {x : Cx} {Q : QT} {ks : List Kont} {fr : Fr} {H : AHeap} {ms : List Nat} : W x Q c30L0 ks fr H ms = W x Q (.seq (.ops [⟨(some 10), (.bin .lss (.t 9) (.t 8)), none⟩])
    (.seq (.cond (.t 10)
      .skip
      (.exit 0))
    (.seq (.block 1 (.seq (.ops [⟨(some 11), (.ixS 1 (.t 7) (.t 9)), none⟩,
      ⟨(some 12), (.load false 1 (.t 11)), none⟩,
      ⟨(some 5), (.mv (.t 12)), none⟩])
    (.seq (.ops [⟨(some 13), (.mv (.t 5)), none⟩,
      ⟨(some 14), (.ixS 1 (.t 13) (.k (I 0))), none⟩,
      ⟨(some 15), (.load false 1 (.t 14)), none⟩,
      ⟨(some 16), (.bin .eql (.t 15) (.k (I 0))), none⟩])
    (.cond (.t 16)
      (.ops [⟨(some 17), (.mv (.t 3)), none⟩,
        ⟨(some 18), (.bin .add (.t 17) (.k (I 1))), none⟩,
        ⟨(some 3), (.mv (.t 18)), none⟩])
      .skip))))
    (.ops [⟨(some 19), (.bin .add (.t 9) (.k (I 1))), none⟩,
      ⟨(some 9), (.mv (.t 19)), none⟩])))) ks fr H ms := rfl
def c30 : ICode :=
  (.seq (.ops [⟨(some 2), (.mv (.k (I 0))), none⟩])
  (.seq (.ops [⟨(some 3), (.mv (.k (I 0))), none⟩])
  (.seq (.seq (.ops [⟨(some 6), (.mv (.t 0)), none⟩,
    ⟨(some 7), (.call (.k (.fn (.func 29) [] [])) [(.t 6)]), none⟩,
    ⟨(some 8), (.len (.t 7)), none⟩,
    ⟨(some 9), (.mv (.k (I 0))), none⟩])
  (.block 0 (.loop c30L0)))
  c30T1)))
theorem w30 {x : Cx} {Q : QT} {ks : List Kont} {fr : Fr} {H : AHeap} {ms : List Nat} : W x Q c30 ks fr H ms = W x Q (.seq (.ops [⟨(some 2), (.mv (.k (I 0))), none⟩])
    (.seq (.ops [⟨(some 3), (.mv (.k (I 0))), none⟩])
    (.seq (.seq (.ops [⟨(some 6), (.mv (.t 0)), none⟩,
      ⟨(some 7), (.call (.k (.fn (.func 29) [] [])) [(.t 6)]), none⟩,
      ⟨(some 8), (.len (.t 7)), none⟩,
      ⟨(some 9), (.mv (.k (I 0))), none⟩])
    (.block 0 (.loop c30L0)))
    c30T1))) ks fr H ms := rfl
def r30 : List IRes := [(.tmp 2)]
theorem t30 : Try.f30.body.bind (trCode Try.prog Try.f30.ntmps) = some (strip c30) := by kernel_rfl
theorem q30 : trRes Try.prog Try.f30.results.toList = some r30 := by kernel_rfl
theorem fn30 : Try.prog.funcs[30]? = some Try.f30 := by kernel_rfl
theorem nn30 : (Try.f30.name == "runtime.NumGoroutine") = false := by kernel_rfl
theorem nt30 : Try.f30.ntmps = 21 := by kernel_rfl
def c25 : ICode :=
  (.seq (.ops [⟨(some 2), (.mv (.k (I 0))), none⟩,
    ⟨(some 3), (.mv (.k (I 0))), none⟩])
  (.seq (.seq (.ops [⟨(some 4), (.mv (.t 0)), none⟩,
    ⟨(some 5), (.call (.k (.fn (.func 57) [] [])) [(.t 4)]), none⟩,
    ⟨(some 6), (.un .not (.t 5)), none⟩])
  (.cond (.t 6)
    (.seq (.ops [⟨(some 2), (.mv (.k (I 0))), none⟩,
      ⟨(some 3), (.mv (.k (I 2))), none⟩])
    .ret)
    .skip))
  (.seq (.ops [⟨(some 7), (.mv (.t 0)), none⟩,
    ⟨(some 8), (.call (.k (.fn (.func 58) [] [])) [(.t 7), (.k (.fn (.func 60) [] []))]), none⟩,
    ⟨(some 2), (.mv (.t 8)), none⟩,
    ⟨(some 3), (.mv (.k (I 0))), none⟩])
  .ret)))
theorem w25 {x : Cx} {Q : QT} {ks : List Kont} {fr : Fr} {H : AHeap} {ms : List Nat} : W x Q c25 ks fr H ms = W x Q (.seq (.ops [⟨(some 2), (.mv (.k (I 0))), none⟩,
      ⟨(some 3), (.mv (.k (I 0))), none⟩])
    (.seq (.seq (.ops [⟨(some 4), (.mv (.t 0)), none⟩,
      ⟨(some 5), (.call (.k (.fn (.func 57) [] [])) [(.t 4)]), none⟩,
      ⟨(some 6), (.un .not (.t 5)), none⟩])
    (.cond (.t 6)
      (.seq (.ops [⟨(some 2), (.mv (.k (I 0))), none⟩,
        ⟨(some 3), (.mv (.k (I 2))), none⟩])
      .ret)
      .skip))
    (.seq (.ops [⟨(some 7), (.mv (.t 0)), none⟩,
      ⟨(some 8), (.call (.k (.fn (.func 58) [] [])) [(.t 7), (.k (.fn (.func 60) [] []))]), none⟩,
      ⟨(some 2), (.mv (.t 8)), none⟩,
      ⟨(some 3), (.mv (.k (I 0))), none⟩])
    .ret))) ks fr H ms := rfl
def r25 : List IRes := [(.tmp 2), (.tmp 3)]
theorem t25 : Try.f25.body.bind (trCode Try.prog Try.f25.ntmps) = some (strip c25) := by kernel_rfl
theorem q25 : trRes Try.prog Try.f25.results.toList = some r25 := by kernel_rfl
theorem fn25 : Try.prog.funcs[25]? = some Try.f25 := by kernel_rfl
theorem nn25 : (Try.f25.name == "runtime.NumGoroutine") = false := by kernel_rfl
theorem nt25 : Try.f25.ntmps = 9 := by kernel_rfl
def c28R0a : ICode :=
  (.ops [⟨(some 5), (.mv (.t 15)), none⟩])
theorem w28R0a {x : Cx} {Q : QT} {ks : List Kont} {fr : Fr} {H : AHeap} {ms : List Nat} : W x Q c28R0a ks fr H ms = W x Q (.ops [⟨(some 5), (.mv (.t 15)), none⟩]) ks fr H ms := rfl
theorem t28R0a : trCode Try.prog 22 (asOf Try.f28 0) = some (strip c28R0a) := by kernel_rfl
def c28R0b : ICode :=
  (.block 1 (.draw 2 [] (.early 1 ⟨(some 16), (.load false 1 (.t 4)), none⟩
    (.early 1 ⟨(some 17), (.mv (.t 5)), none⟩
    (.early 1 ⟨(some 18), (.call (.k (.fn (.func 44) [] [])) [(.t 17)]), none⟩
    (.step 0 1 ⟨(some 19), (.bslice 1 1 [nilSl] [(0, 1, (.t 18))]), none⟩
    (.step 1 0 ⟨(some 20), (.append 1 24 (.t 16) (.t 19)), none⟩
    (.step 2 0 ⟨none, (.store 1 (.t 4) (.t 20)), none⟩
    .done))))))))
theorem w28R0b {x : Cx} {Q : QT} {ks : List Kont} {fr : Fr} {H : AHeap} {ms : List Nat} : W x Q c28R0b ks fr H ms = W x Q (.block 1 (.draw 2 [] (.early 1 ⟨(some 16), (.load false 1 (.t 4)), none⟩
      (.early 1 ⟨(some 17), (.mv (.t 5)), none⟩
      (.early 1 ⟨(some 18), (.call (.k (.fn (.func 44) [] [])) [(.t 17)]), none⟩
      (.step 0 1 ⟨(some 19), (.bslice 1 1 [nilSl] [(0, 1, (.t 18))]), none⟩
      (.step 1 0 ⟨(some 20), (.append 1 24 (.t 16) (.t 19)), none⟩
      (.step 2 0 ⟨none, (.store 1 (.t 4) (.t 20)), none⟩
      .done)))))))) ks fr H ms := rfl
theorem t28R0b : trCode Try.prog 22 (bdOf Try.f28 0) = some (strip c28R0b) := by kernel_rfl
def c28T0 : ICode :=
  (.seq (.ops [⟨(some 21), (.load false 1 (.t 4)), none⟩,
    ⟨(some 2), (.mv (.t 21)), none⟩,
    ⟨(some 3), (.mv (.k (I 0))), none⟩])
  .ret)
theorem w28T0 {x : Cx} {Q : QT} {ks : List Kont} {fr : Fr} {H : AHeap} {ms : List Nat} : W x Q c28T0 ks fr H ms = W x Q (.seq (.ops [⟨(some 21), (.load false 1 (.t 4)), none⟩,
      ⟨(some 2), (.mv (.t 21)), none⟩,
      ⟨(some 3), (.mv (.k (I 0))), none⟩])
    .ret) ks fr H ms := rfl
noncomputable def c28 : ICode :=
  (.seq (.ops [⟨(some 2), (.mv (.k nilSl)), none⟩,
    ⟨(some 3), (.mv (.k (I 0))), none⟩])
  (.seq (.seq (.ops [⟨(some 6), (.mv (.t 0)), none⟩,
    ⟨(some 7), (.call (.k (.fn (.func 57) [] [])) [(.t 6)]), none⟩,
    ⟨(some 8), (.un .not (.t 7)), none⟩,
    ⟨(some 9), (.mv (.t 8)), none⟩,
    ⟨(some 10), (.mv (.t 0)), (some (9, false))⟩,
    ⟨(some 11), (.bin .gtr (.t 10) (.k (I 6))), (some (9, false))⟩,
    ⟨(some 12), (.pick (.t 9) (.k (B true)) (.t 11)), none⟩])
  (.cond (.t 12)
    (.seq (.ops [⟨(some 2), (.mv (.k nilSl)), none⟩,
      ⟨(some 3), (.mv (.k (I 2))), none⟩])
    .ret)
    .skip))
  (.seq (.ops [⟨(some 4), (.alloc [nilSl]), none⟩])
  (.seq (.seq (.ops [⟨(some 13), (.mv (.t 0)), none⟩,
    ⟨(some 14), (.call (.k (.fn (.func 65) [] [])) [(.t 13)]), none⟩])
  (.block 0 (.range (.t 14) [15] (asOf Try.f28 0) (bdOf Try.f28 0))))
  c28T0))))
theorem w28 {x : Cx} {Q : QT} {ks : List Kont} {fr : Fr} {H : AHeap} {ms : List Nat} : W x Q c28 ks fr H ms = W x Q (.seq (.ops [⟨(some 2), (.mv (.k nilSl)), none⟩,
      ⟨(some 3), (.mv (.k (I 0))), none⟩])
    (.seq (.seq (.ops [⟨(some 6), (.mv (.t 0)), none⟩,
      ⟨(some 7), (.call (.k (.fn (.func 57) [] [])) [(.t 6)]), none⟩,
      ⟨(some 8), (.un .not (.t 7)), none⟩,
      ⟨(some 9), (.mv (.t 8)), none⟩,
      ⟨(some 10), (.mv (.t 0)), (some (9, false))⟩,
      ⟨(some 11), (.bin .gtr (.t 10) (.k (I 6))), (some (9, false))⟩,
      ⟨(some 12), (.pick (.t 9) (.k (B true)) (.t 11)), none⟩])
    (.cond (.t 12)
      (.seq (.ops [⟨(some 2), (.mv (.k nilSl)), none⟩,
        ⟨(some 3), (.mv (.k (I 2))), none⟩])
      .ret)
      .skip))
    (.seq (.ops [⟨(some 4), (.alloc [nilSl]), none⟩])
    (.seq (.seq (.ops [⟨(some 13), (.mv (.t 0)), none⟩,
      ⟨(some 14), (.call (.k (.fn (.func 65) [] [])) [(.t 13)]), none⟩])
    (.block 0 (.range (.t 14) [15] (asOf Try.f28 0) (bdOf Try.f28 0))))
    c28T0)))) ks fr H ms := rfl
def r28 : List IRes := [(.tmp 2), (.tmp 3)]
theorem t28 : Try.f28.body.bind (trCode Try.prog Try.f28.ntmps) = some (strip c28) := by kernel_rfl
theorem q28 : trRes Try.prog Try.f28.results.toList = some r28 := by kernel_rfl
theorem fn28 : Try.prog.funcs[28]? = some Try.f28 := by kernel_rfl
theorem nn28 : (Try.f28.name == "runtime.NumGoroutine") = false := by kernel_rfl
theorem nt28 : Try.f28.ntmps = 22 := by kernel_rfl
def c60 : ICode :=
  (.seq (.ops [⟨(some 2), (.mv (.k (B false))), none⟩])
  (.seq (.ops [⟨(some 3), (.mv (.t 0)), none⟩,
    ⟨(some 4), (.ixS 1 (.t 3) (.k (I 0))), none⟩,
    ⟨(some 5), (.load false 1 (.t 4)), none⟩,
    ⟨(some 6), (.bin .eql (.t 5) (.k (I 0))), none⟩,
    ⟨(some 2), (.mv (.t 6)), none⟩])
  .ret))
theorem w60 {x : Cx} {Q : QT} {ks : List Kont} {fr : Fr} {H : AHeap} {ms : List Nat} : W x Q c60 ks fr H ms = W x Q (.seq (.ops [⟨(some 2), (.mv (.k (B false))), none⟩])
    (.seq (.ops [⟨(some 3), (.mv (.t 0)), none⟩,
      ⟨(some 4), (.ixS 1 (.t 3) (.k (I 0))), none⟩,
      ⟨(some 5), (.load false 1 (.t 4)), none⟩,
      ⟨(some 6), (.bin .eql (.t 5) (.k (I 0))), none⟩,
      ⟨(some 2), (.mv (.t 6)), none⟩])
    .ret)) ks fr H ms := rfl
def r60 : List IRes := [(.tmp 2)]
theorem t60 : Try.f60.body.bind (trCode Try.prog Try.f60.ntmps) = some (strip c60) := by kernel_rfl
theorem q60 : trRes Try.prog Try.f60.results.toList = some r60 := by kernel_rfl
theorem fn60 : Try.prog.funcs[60]? = some Try.f60 := by kernel_rfl
theorem nn60 : (Try.f60.name == "runtime.NumGoroutine") = false := by kernel_rfl
theorem nt60 : Try.f60.ntmps = 7 := by kernel_rfl
def c31T1 : ICode :=
  (.keep [] (.seq (.ops [⟨(some 6), (.mv (.k (B true))), none⟩])
  .ret))
theorem w31T1 {x : Cx} {Q : QT} {ks : List Kont} {fr : Fr} {H : AHeap} {ms : List Nat} : W x Q c31T1 ks fr H ms = W x Q (.keep [] (.seq (.ops [⟨(some 6), (.mv (.k (B true))), none⟩])
    .ret)) ks fr H ms := rfl
/- live: [1, 2, 15, 16, 17] -/
def c31L0 : ICode :=
  (.seq (.ops [⟨(some 18), (.bin .lss (.t 17) (.t 16)), none⟩])
  (.seq (.cond (.t 18)
    .skip
    (.exit 0))
  (.seq (.block 1 (.seq (.ops [⟨(some 19), (.mv (.t 17)), none⟩,
    ⟨(some 20), (.ixS 1 (.t 15) (.t 17)), none⟩,
    ⟨(some 21), (.load false 1 (.t 20)), none⟩,
    ⟨(some 7), (.mv (.t 19)), none⟩,
    ⟨(some 8), (.mv (.t 21)), none⟩])
  (.seq (.ops [⟨(some 22), (.mv (.t 1)), none⟩,
    ⟨(some 23), (.mv (.t 7)), none⟩,
    ⟨(some 24), (.ixS 1 (.t 22) (.t 23)), none⟩,
    ⟨(some 25), (.load false 1 (.t 24)), none⟩,
    ⟨(some 9), (.mv (.t 25)), none⟩])
  (.seq (.ops [⟨(some 26), (.mv (.t 2)), none⟩,
    ⟨(some 27), (.mv (.t 8)), none⟩,
    ⟨(some 28), (.mv (.t 9)), none⟩,
    ⟨(some 29), (.call (.t 26) [(.t 27), (.t 28)]), none⟩,
    ⟨(some 30), (.un .not (.t 29)), none⟩])
  (.cond (.t 30)
    (.seq (.ops [⟨(some 6), (.mv (.k (B false))), none⟩])
    .ret)
    .skip)))))
  (.ops [⟨(some 31), (.bin .add (.t 17) (.k (I 1))), none⟩,
    ⟨(some 17), (.mv (.t 31)), none⟩]))))
theorem w31L0 {x : Cx} {Q : QT} {ks : List Kont} {fr : Fr} {H : AHeap} {ms : List Nat} : W x Q c31L0 ks fr H ms = W x Q (.seq (.ops [⟨(some 18), (.bin .lss (.t 17) (.t 16)), none⟩])
    (.seq (.cond (.t 18)
      .skip
      (.exit 0))
    (.seq (.block 1 (.seq (.ops [⟨(some 19), (.mv (.t 17)), none⟩,
      ⟨(some 20), (.ixS 1 (.t 15) (.t 17)), none⟩,
      ⟨(some 21), (.load false 1 (.t 20)), none⟩,
      ⟨(some 7), (.mv (.t 19)), none⟩,
      ⟨(some 8), (.mv (.t 21)), none⟩])
    (.seq (.ops [⟨(some 22), (.mv (.t 1)), none⟩,
      ⟨(some 23), (.mv (.t 7)), none⟩,
      ⟨(some 24), (.ixS 1 (.t 22) (.t 23)), none⟩,
      ⟨(some 25), (.load false 1 (.t 24)), none⟩,
      ⟨(some 9), (.mv (.t 25)), none⟩])
    (.seq (.ops [⟨(some 26), (.mv (.t 2)), none⟩,
      ⟨(some 27), (.mv (.t 8)), none⟩,
      ⟨(some 28), (.mv (.t 9)), none⟩,
      ⟨(some 29), (.call (.t 26) [(.t 27), (.t 28)]), none⟩,
      ⟨(some 30), (.un .not (.t 29)), none⟩])
    (.cond (.t 30)
      (.seq (.ops [⟨(some 6), (.mv (.k (B false))), none⟩])
      .ret)
      .skip)))))
    (.ops [⟨(some 31), (.bin .add (.t 17) (.k (I 1))), none⟩,
      ⟨(some 17), (.mv (.t 31)), none⟩])))) ks fr H ms := rfl
def c31 : ICode :=
  (.seq (.ops [⟨(some 6), (.mv (.k (B false))), none⟩])
  (.seq (.seq (.ops [⟨(some 10), (.mv (.t 0)), none⟩,
    ⟨(some 11), (.len (.t 10)), none⟩,
    ⟨(some 12), (.mv (.t 1)), none⟩,
    ⟨(some 13), (.len (.t 12)), none⟩,
    ⟨(some 14), (.bin .neq (.t 11) (.t 13)), none⟩])
  (.cond (.t 14)
    (.seq (.ops [⟨(some 6), (.mv (.k (B false))), none⟩])
    .ret)
    .skip))
  (.seq (.seq (.ops [⟨(some 15), (.mv (.t 0)), none⟩,
    ⟨(some 16), (.len (.t 15)), none⟩,
    ⟨(some 17), (.mv (.k (I 0))), none⟩])
  (.block 0 (.loop c31L0)))
  c31T1)))
theorem w31 {x : Cx} {Q : QT} {ks : List Kont} {fr : Fr} {H : AHeap} {ms : List Nat} : W x Q c31 ks fr H ms = W x Q (.seq (.ops [⟨(some 6), (.mv (.k (B false))), none⟩])
    (.seq (.seq (.ops [⟨(some 10), (.mv (.t 0)), none⟩,
      ⟨(some 11), (.len (.t 10)), none⟩,
      ⟨(some 12), (.mv (.t 1)), none⟩,
      ⟨(some 13), (.len (.t 12)), none⟩,
      ⟨(some 14), (.bin .neq (.t 11) (.t 13)), none⟩])
    (.cond (.t 14)
      (.seq (.ops [⟨(some 6), (.mv (.k (B false))), none⟩])
      .ret)
      .skip))
    (.seq (.seq (.ops [⟨(some 15), (.mv (.t 0)), none⟩,
      ⟨(some 16), (.len (.t 15)), none⟩,
      ⟨(some 17), (.mv (.k (I 0))), none⟩])
    (.block 0 (.loop c31L0)))
    c31T1))) ks fr H ms := rfl
def r31 : List IRes := [(.tmp 6)]
theorem t31 : Try.f31.body.bind (trCode Try.prog Try.f31.ntmps) = some (strip c31) := by kernel_rfl
theorem q31 : trRes Try.prog Try.f31.results.toList = some r31 := by kernel_rfl
theorem fn31 : Try.prog.funcs[31]? = some Try.f31 := by kernel_rfl
theorem nn31 : (Try.f31.name == "runtime.NumGoroutine") = false := by kernel_rfl
theorem nt31 : Try.f31.ntmps = 32 := by kernel_rfl
def c32T1 : ICode :=
  (.keep [] (.seq (.ops [⟨(some 4), (.mv (.k (B true))), none⟩])
  .ret))
theorem w32T1 {x : Cx} {Q : QT} {ks : List Kont} {fr : Fr} {H : AHeap} {ms : List Nat} : W x Q c32T1 ks fr H ms = W x Q (.keep [] (.seq (.ops [⟨(some 4), (.mv (.k (B true))), none⟩])
    .ret)) ks fr H ms := rfl
/- live: [0, 1, 12, 13] -/
def c32L0 : ICode :=
  (.seq (.ops [⟨(some 14), (.bin .lss (.t 13) (.t 12)), none⟩])
  (.seq (.cond (.t 14)
    .skip
    (.exit 0))
  (.seq (.block 1 (.seq (.ops [⟨(some 15), (.mv (.t 13)), none⟩,
    ⟨(some 5), (.mv (.t 15)), none⟩])
  (.seq (.draw 0 [] (.early 1 ⟨(some 16), (.mv (.t 0)), none⟩
    (.early 1 ⟨(some 17), (.mv (.t 5)), none⟩
    (.early 1 ⟨(some 18), (.ixS 1 (.t 16) (.t 17)), none⟩
    (.early 1 ⟨(some 19), (.load false 1 (.t 18)), none⟩
    (.early 1 ⟨(some 20), (.mv (.t 1)), none⟩
    (.early 1 ⟨(some 21), (.mv (.t 5)), none⟩
    (.early 1 ⟨(some 22), (.ixS 1 (.t 20) (.t 21)), none⟩
    (.early 1 ⟨(some 23), (.load false 1 (.t 22)), none⟩
    (.early 0 ⟨(some 24), (.bin .neq (.t 19) (.t 23)), none⟩
    .done))))))))))
  (.keep [0, 1, 12, 13, 24] (.cond (.t 24)
    (.seq (.ops [⟨(some 4), (.mv (.k (B false))), none⟩])
    .ret)
    .skip)))))
  (.ops [⟨(some 25), (.bin .add (.t 13) (.k (I 1))), none⟩,
    ⟨(some 13), (.mv (.t 25)), none⟩]))))
theorem w32L0 {x : Cx} {Q : QT} {ks : List Kont} {fr : Fr} {H : AHeap} {ms : List Nat} : W x Q c32L0 ks fr H ms = W x Q (.seq (.ops [⟨(some 14), (.bin .lss (.t 13) (.t 12)), none⟩])
    (.seq (.cond (.t 14)
      .skip
      (.exit 0))
    (.seq (.block 1 (.seq (.ops [⟨(some 15), (.mv (.t 13)), none⟩,
      ⟨(some 5), (.mv (.t 15)), none⟩])
    (.seq (.draw 0 [] (.early 1 ⟨(some 16), (.mv (.t 0)), none⟩
      (.early 1 ⟨(some 17), (.mv (.t 5)), none⟩
      (.early 1 ⟨(some 18), (.ixS 1 (.t 16) (.t 17)), none⟩
      (.early 1 ⟨(some 19), (.load false 1 (.t 18)), none⟩
      (.early 1 ⟨(some 20), (.mv (.t 1)), none⟩
      (.early 1 ⟨(some 21), (.mv (.t 5)), none⟩
      (.early 1 ⟨(some 22), (.ixS 1 (.t 20) (.t 21)), none⟩
      (.early 1 ⟨(some 23), (.load false 1 (.t 22)), none⟩
      (.early 0 ⟨(some 24), (.bin .neq (.t 19) (.t 23)), none⟩
      .done))))))))))
    (.keep [0, 1, 12, 13, 24] (.cond (.t 24)
      (.seq (.ops [⟨(some 4), (.mv (.k (B false))), none⟩])
      .ret)
      .skip)))))
    (.ops [⟨(some 25), (.bin .add (.t 13) (.k (I 1))), none⟩,
      ⟨(some 13), (.mv (.t 25)), none⟩])))) ks fr H ms := rfl
def c32 : ICode :=
  (.seq (.ops [⟨(some 4), (.mv (.k (B false))), none⟩])
  (.seq (.seq (.ops [⟨(some 6), (.mv (.t 0)), none⟩,
    ⟨(some 7), (.len (.t 6)), none⟩,
    ⟨(some 8), (.mv (.t 1)), none⟩,
    ⟨(some 9), (.len (.t 8)), none⟩,
    ⟨(some 10), (.bin .neq (.t 7) (.t 9)), none⟩])
  (.cond (.t 10)
    (.seq (.ops [⟨(some 4), (.mv (.k (B false))), none⟩])
    .ret)
    .skip))
  (.seq (.seq (.ops [⟨(some 11), (.mv (.t 0)), none⟩,
    ⟨(some 12), (.len (.t 11)), none⟩,
    ⟨(some 13), (.mv (.k (I 0))), none⟩])
  (.block 0 (.loop c32L0)))
  c32T1)))
theorem w32 {x : Cx} {Q : QT} {ks : List Kont} {fr : Fr} {H : AHeap} {ms : List Nat} : W x Q c32 ks fr H ms = W x Q (.seq (.ops [⟨(some 4), (.mv (.k (B false))), none⟩])
    (.seq (.seq (.ops [⟨(some 6), (.mv (.t 0)), none⟩,
      ⟨(some 7), (.len (.t 6)), none⟩,
      ⟨(some 8), (.mv (.t 1)), none⟩,
      ⟨(some 9), (.len (.t 8)), none⟩,
      ⟨(some 10), (.bin .neq (.t 7) (.t 9)), none⟩])
    (.cond (.t 10)
      (.seq (.ops [⟨(some 4), (.mv (.k (B false))), none⟩])
      .ret)
      .skip))
    (.seq (.seq (.ops [⟨(some 11), (.mv (.t 0)), none⟩,
      ⟨(some 12), (.len (.t 11)), none⟩,
      ⟨(some 13), (.mv (.k (I 0))), none⟩])
    (.block 0 (.loop c32L0)))
    c32T1))) ks fr H ms := rfl
def r32 : List IRes := [(.tmp 4)]
theorem t32 : Try.f32.body.bind (trCode Try.prog Try.f32.ntmps) = some (strip c32) := by kernel_rfl
theorem q32 : trRes Try.prog Try.f32.results.toList = some r32 := by kernel_rfl
theorem fn32 : Try.prog.funcs[32]? = some Try.f32 := by kernel_rfl
theorem nn32 : (Try.f32.name == "runtime.NumGoroutine") = false := by kernel_rfl
theorem nt32 : Try.f32.ntmps = 26 := by kernel_rfl
def c7 : ICode :=
  (.seq (.ops [⟨(some 2), (.mv (.k (B false))), none⟩])
  (.seq (.ops [⟨(some 11), (.mv (.t 0)), none⟩,
    ⟨(some 12), (.call (.k (.fn (.func 24) [] [])) [(.t 11)]), none⟩,
    ⟨(some 10), (.mv (.t 12)), none⟩,
    ⟨(some 13), (.ext (.t 10) 0), none⟩,
    ⟨(some 14), (.ext (.t 10) 1), none⟩,
    ⟨(some 3), (.mv (.t 13)), none⟩,
    ⟨(some 4), (.mv (.t 14)), none⟩])
  (.seq (.ops [⟨(some 16), (.mv (.t 0)), none⟩,
    ⟨(some 17), (.call (.k (.fn (.func 28) [] [])) [(.t 16)]), none⟩,
    ⟨(some 15), (.mv (.t 17)), none⟩,
    ⟨(some 18), (.ext (.t 15) 0), none⟩,
    ⟨(some 19), (.ext (.t 15) 1), none⟩,
    ⟨(some 5), (.mv (.t 18)), none⟩,
    ⟨(some 6), (.mv (.t 19)), none⟩])
  (.seq (.ops [⟨(some 21), (.mv (.t 0)), none⟩,
    ⟨(some 22), (.call (.k (.fn (.func 25) [] [])) [(.t 21)]), none⟩,
    ⟨(some 20), (.mv (.t 22)), none⟩,
    ⟨(some 23), (.ext (.t 20) 0), none⟩,
    ⟨(some 24), (.ext (.t 20) 1), none⟩,
    ⟨(some 7), (.mv (.t 23)), none⟩,
    ⟨(some 8), (.mv (.t 24)), none⟩])
  (.seq (.seq (.ops [⟨(some 25), (.mv (.t 0)), none⟩,
    ⟨(some 26), (.bin .lss (.t 25) (.k (I 1))), none⟩,
    ⟨(some 27), (.mv (.t 26)), none⟩,
    ⟨(some 28), (.mv (.t 0)), (some (27, false))⟩,
    ⟨(some 29), (.bin .gtr (.t 28) (.k (I 7))), (some (27, false))⟩,
    ⟨(some 30), (.pick (.t 27) (.k (B true)) (.t 29)), none⟩])
  (.cond (.t 30)
    (.seq (.ops [⟨(some 31), (.mv (.t 3)), none⟩,
      ⟨(some 32), (.bin .eql (.t 31) (.k (I 0))), none⟩,
      ⟨(some 33), (.mv (.t 32)), none⟩,
      ⟨(some 34), (.mv (.t 5)), (some (33, true))⟩,
      ⟨(some 35), (.len (.t 34)), (some (33, true))⟩,
      ⟨(some 36), (.bin .eql (.t 35) (.k (I 0))), (some (33, true))⟩,
      ⟨(some 37), (.pick (.t 33) (.t 36) (.k (B false))), none⟩,
      ⟨(some 38), (.mv (.t 37)), none⟩,
      ⟨(some 39), (.mv (.t 7)), (some (38, true))⟩,
      ⟨(some 40), (.bin .eql (.t 39) (.k (I 0))), (some (38, true))⟩,
      ⟨(some 41), (.pick (.t 38) (.t 40) (.k (B false))), none⟩,
      ⟨(some 42), (.mv (.t 41)), none⟩,
      ⟨(some 43), (.mv (.t 4)), (some (42, true))⟩,
      ⟨(some 44), (.bin .eql (.t 43) (.k (I 2))), (some (42, true))⟩,
      ⟨(some 45), (.pick (.t 42) (.t 44) (.k (B false))), none⟩,
      ⟨(some 46), (.mv (.t 45)), none⟩,
      ⟨(some 47), (.mv (.t 6)), (some (46, true))⟩,
      ⟨(some 48), (.bin .eql (.t 47) (.k (I 2))), (some (46, true))⟩,
      ⟨(some 49), (.pick (.t 46) (.t 48) (.k (B false))), none⟩,
      ⟨(some 50), (.mv (.t 49)), none⟩,
      ⟨(some 51), (.mv (.t 8)), (some (50, true))⟩,
      ⟨(some 52), (.bin .eql (.t 51) (.k (I 2))), (some (50, true))⟩,
      ⟨(some 53), (.pick (.t 50) (.t 52) (.k (B false))), none⟩,
      ⟨(some 54), (.mv (.t 53)), none⟩,
      ⟨(some 55), (.call (.k (.fn (.func 18) [] [])) []), (some (54, true))⟩,
      ⟨(some 56), (.pick (.t 54) (.t 55) (.k (B false))), none⟩,
      ⟨(some 2), (.mv (.t 56)), none⟩])
    .ret)
    .skip))
  (.seq (.ops [⟨(some 57), (.mv (.t 0)), none⟩,
    ⟨(some 58), (.call (.k (.fn (.func 29) [] [])) [(.t 57)]), none⟩,
    ⟨(some 9), (.mv (.t 58)), none⟩])
  (.seq (.seq (.ops [⟨(some 59), (.mv (.t 3)), none⟩,
    ⟨(some 60), (.mv (.t 9)), none⟩,
    ⟨(some 61), (.len (.t 60)), none⟩,
    ⟨(some 62), (.bin .neq (.t 59) (.t 61)), none⟩,
    ⟨(some 63), (.mv (.t 62)), none⟩,
    ⟨(some 64), (.mv (.t 4)), (some (63, false))⟩,
    ⟨(some 65), (.bin .neq (.t 64) (.k (I 0))), (some (63, false))⟩,
    ⟨(some 66), (.pick (.t 63) (.k (B true)) (.t 65)), none⟩,
    ⟨(some 67), (.mv (.t 66)), none⟩,
    ⟨(some 68), (.mv (.t 7)), (some (67, false))⟩,
    ⟨(some 69), (.mv (.t 0)), (some (67, false))⟩,
    ⟨(some 70), (.call (.k (.fn (.func 30) [] [])) [(.t 69)]), (some (67, false))⟩,
    ⟨(some 71), (.bin .neq (.t 68) (.t 70)), (some (67, false))⟩,
    ⟨(some 72), (.pick (.t 67) (.k (B true)) (.t 71)), none⟩,
    ⟨(some 73), (.mv (.t 72)), none⟩,
    ⟨(some 74), (.mv (.t 8)), (some (73, false))⟩,
    ⟨(some 75), (.bin .neq (.t 74) (.k (I 0))), (some (73, false))⟩,
    ⟨(some 76), (.pick (.t 73) (.k (B true)) (.t 75)), none⟩,
    ⟨(some 77), (.mv (.t 76)), none⟩,
    ⟨(some 78), (.call (.k (.fn (.func 18) [] [])) []), (some (77, false))⟩,
    ⟨(some 79), (.un .not (.t 78)), (some (77, false))⟩,
    ⟨(some 80), (.pick (.t 77) (.k (B true)) (.t 79)), none⟩])
  (.cond (.t 80)
    (.seq (.ops [⟨(some 2), (.mv (.k (B false))), none⟩])
    .ret)
    .skip))
  (.seq (.seq (.ops [⟨(some 81), (.mv (.t 0)), none⟩,
    ⟨(some 82), (.bin .gtr (.t 81) (.k (I 6))), none⟩])
  (.cond (.t 82)
    (.seq (.ops [⟨(some 83), (.mv (.t 5)), none⟩,
      ⟨(some 84), (.len (.t 83)), none⟩,
      ⟨(some 85), (.bin .eql (.t 84) (.k (I 0))), none⟩,
      ⟨(some 86), (.mv (.t 85)), none⟩,
      ⟨(some 87), (.mv (.t 6)), (some (86, true))⟩,
      ⟨(some 88), (.bin .eql (.t 87) (.k (I 2))), (some (86, true))⟩,
      ⟨(some 89), (.pick (.t 86) (.t 88) (.k (B false))), none⟩,
      ⟨(some 2), (.mv (.t 89)), none⟩])
    .ret)
    .skip))
  (.seq (.ops [⟨(some 90), (.mv (.t 5)), none⟩,
    ⟨(some 91), (.mv (.t 9)), none⟩,
    ⟨(some 92), (.call (.k (.fn (.func 31) [] [])) [(.t 90), (.t 91), (.k (.fn (.func 32) [] []))]), none⟩,
    ⟨(some 93), (.mv (.t 92)), none⟩,
    ⟨(some 94), (.mv (.t 6)), (some (93, true))⟩,
    ⟨(some 95), (.bin .eql (.t 94) (.k (I 0))), (some (93, true))⟩,
    ⟨(some 96), (.pick (.t 93) (.t 95) (.k (B false))), none⟩,
    ⟨(some 2), (.mv (.t 96)), none⟩])
  .ret)))))))))
theorem w7 {x : Cx} {Q : QT} {ks : List Kont} {fr : Fr} {H : AHeap} {ms : List Nat} : W x Q c7 ks fr H ms = W x Q (.seq (.ops [⟨(some 2), (.mv (.k (B false))), none⟩])
    (.seq (.ops [⟨(some 11), (.mv (.t 0)), none⟩,
      ⟨(some 12), (.call (.k (.fn (.func 24) [] [])) [(.t 11)]), none⟩,
      ⟨(some 10), (.mv (.t 12)), none⟩,
      ⟨(some 13), (.ext (.t 10) 0), none⟩,
      ⟨(some 14), (.ext (.t 10) 1), none⟩,
      ⟨(some 3), (.mv (.t 13)), none⟩,
      ⟨(some 4), (.mv (.t 14)), none⟩])
    (.seq (.ops [⟨(some 16), (.mv (.t 0)), none⟩,
      ⟨(some 17), (.call (.k (.fn (.func 28) [] [])) [(.t 16)]), none⟩,
      ⟨(some 15), (.mv (.t 17)), none⟩,
      ⟨(some 18), (.ext (.t 15) 0), none⟩,
      ⟨(some 19), (.ext (.t 15) 1), none⟩,
      ⟨(some 5), (.mv (.t 18)), none⟩,
      ⟨(some 6), (.mv (.t 19)), none⟩])
    (.seq (.ops [⟨(some 21), (.mv (.t 0)), none⟩,
      ⟨(some 22), (.call (.k (.fn (.func 25) [] [])) [(.t 21)]), none⟩,
      ⟨(some 20), (.mv (.t 22)), none⟩,
      ⟨(some 23), (.ext (.t 20) 0), none⟩,
      ⟨(some 24), (.ext (.t 20) 1), none⟩,
      ⟨(some 7), (.mv (.t 23)), none⟩,
      ⟨(some 8), (.mv (.t 24)), none⟩])
    (.seq (.seq (.ops [⟨(some 25), (.mv (.t 0)), none⟩,
      ⟨(some 26), (.bin .lss (.t 25) (.k (I 1))), none⟩,
      ⟨(some 27), (.mv (.t 26)), none⟩,
      ⟨(some 28), (.mv (.t 0)), (some (27, false))⟩,
      ⟨(some 29), (.bin .gtr (.t 28) (.k (I 7))), (some (27, false))⟩,
      ⟨(some 30), (.pick (.t 27) (.k (B true)) (.t 29)), none⟩])
    (.cond (.t 30)
      (.seq (.ops [⟨(some 31), (.mv (.t 3)), none⟩,
        ⟨(some 32), (.bin .eql (.t 31) (.k (I 0))), none⟩,
        ⟨(some 33), (.mv (.t 32)), none⟩,
        ⟨(some 34), (.mv (.t 5)), (some (33, true))⟩,
        ⟨(some 35), (.len (.t 34)), (some (33, true))⟩,
        ⟨(some 36), (.bin .eql (.t 35) (.k (I 0))), (some (33, true))⟩,
        ⟨(some 37), (.pick (.t 33) (.t 36) (.k (B false))), none⟩,
        ⟨(some 38), (.mv (.t 37)), none⟩,
        ⟨(some 39), (.mv (.t 7)), (some (38, true))⟩,
        ⟨(some 40), (.bin .eql (.t 39) (.k (I 0))), (some (38, true))⟩,
        ⟨(some 41), (.pick (.t 38) (.t 40) (.k (B false))), none⟩,
        ⟨(some 42), (.mv (.t 41)), none⟩,
        ⟨(some 43), (.mv (.t 4)), (some (42, true))⟩,
        ⟨(some 44), (.bin .eql (.t 43) (.k (I 2))), (some (42, true))⟩,
        ⟨(some 45), (.pick (.t 42) (.t 44) (.k (B false))), none⟩,
        ⟨(some 46), (.mv (.t 45)), none⟩,
        ⟨(some 47), (.mv (.t 6)), (some (46, true))⟩,
        ⟨(some 48), (.bin .eql (.t 47) (.k (I 2))), (some (46, true))⟩,
        ⟨(some 49), (.pick (.t 46) (.t 48) (.k (B false))), none⟩,
        ⟨(some 50), (.mv (.t 49)), none⟩,
        ⟨(some 51), (.mv (.t 8)), (some (50, true))⟩,
        ⟨(some 52), (.bin .eql (.t 51) (.k (I 2))), (some (50, true))⟩,
        ⟨(some 53), (.pick (.t 50) (.t 52) (.k (B false))), none⟩,
        ⟨(some 54), (.mv (.t 53)), none⟩,
        ⟨(some 55), (.call (.k (.fn (.func 18) [] [])) []), (some (54, true))⟩,
        ⟨(some 56), (.pick (.t 54) (.t 55) (.k (B false))), none⟩,
        ⟨(some 2), (.mv (.t 56)), none⟩])
      .ret)
      .skip))
    (.seq (.ops [⟨(some 57), (.mv (.t 0)), none⟩,
      ⟨(some 58), (.call (.k (.fn (.func 29) [] [])) [(.t 57)]), none⟩,
      ⟨(some 9), (.mv (.t 58)), none⟩])
    (.seq (.seq (.ops [⟨(some 59), (.mv (.t 3)), none⟩,
      ⟨(some 60), (.mv (.t 9)), none⟩,
      ⟨(some 61), (.len (.t 60)), none⟩,
      ⟨(some 62), (.bin .neq (.t 59) (.t 61)), none⟩,
      ⟨(some 63), (.mv (.t 62)), none⟩,
      ⟨(some 64), (.mv (.t 4)), (some (63, false))⟩,
      ⟨(some 65), (.bin .neq (.t 64) (.k (I 0))), (some (63, false))⟩,
      ⟨(some 66), (.pick (.t 63) (.k (B true)) (.t 65)), none⟩,
      ⟨(some 67), (.mv (.t 66)), none⟩,
      ⟨(some 68), (.mv (.t 7)), (some (67, false))⟩,
      ⟨(some 69), (.mv (.t 0)), (some (67, false))⟩,
      ⟨(some 70), (.call (.k (.fn (.func 30) [] [])) [(.t 69)]), (some (67, false))⟩,
      ⟨(some 71), (.bin .neq (.t 68) (.t 70)), (some (67, false))⟩,
      ⟨(some 72), (.pick (.t 67) (.k (B true)) (.t 71)), none⟩,
      ⟨(some 73), (.mv (.t 72)), none⟩,
      ⟨(some 74), (.mv (.t 8)), (some (73, false))⟩,
      ⟨(some 75), (.bin .neq (.t 74) (.k (I 0))), (some (73, false))⟩,
      ⟨(some 76), (.pick (.t 73) (.k (B true)) (.t 75)), none⟩,
      ⟨(some 77), (.mv (.t 76)), none⟩,
      ⟨(some 78), (.call (.k (.fn (.func 18) [] [])) []), (some (77, false))⟩,
      ⟨(some 79), (.un .not (.t 78)), (some (77, false))⟩,
      ⟨(some 80), (.pick (.t 77) (.k (B true)) (.t 79)), none⟩])
    (.cond (.t 80)
      (.seq (.ops [⟨(some 2), (.mv (.k (B false))), none⟩])
      .ret)
      .skip))
    (.seq (.seq (.ops [⟨(some 81), (.mv (.t 0)), none⟩,
      ⟨(some 82), (.bin .gtr (.t 81) (.k (I 6))), none⟩])
    (.cond (.t 82)
      (.seq (.ops [⟨(some 83), (.mv (.t 5)), none⟩,
        ⟨(some 84), (.len (.t 83)), none⟩,
        ⟨(some 85), (.bin .eql (.t 84) (.k (I 0))), none⟩,
        ⟨(some 86), (.mv (.t 85)), none⟩,
        ⟨(some 87), (.mv (.t 6)), (some (86, true))⟩,
        ⟨(some 88), (.bin .eql (.t 87) (.k (I 2))), (some (86, true))⟩,
        ⟨(some 89), (.pick (.t 86) (.t 88) (.k (B false))), none⟩,
        ⟨(some 2), (.mv (.t 89)), none⟩])
      .ret)
      .skip))
    (.seq (.ops [⟨(some 90), (.mv (.t 5)), none⟩,
      ⟨(some 91), (.mv (.t 9)), none⟩,
      ⟨(some 92), (.call (.k (.fn (.func 31) [] [])) [(.t 90), (.t 91), (.k (.fn (.func 32) [] []))]), none⟩,
      ⟨(some 93), (.mv (.t 92)), none⟩,
      ⟨(some 94), (.mv (.t 6)), (some (93, true))⟩,
      ⟨(some 95), (.bin .eql (.t 94) (.k (I 0))), (some (93, true))⟩,
      ⟨(some 96), (.pick (.t 93) (.t 95) (.k (B false))), none⟩,
      ⟨(some 2), (.mv (.t 96)), none⟩])
    .ret))))))))) ks fr H ms := rfl
def r7 : List IRes := [(.tmp 2)]
theorem t7 : Try.f7.body.bind (trCode Try.prog Try.f7.ntmps) = some (strip c7) := by kernel_rfl
theorem q7 : trRes Try.prog Try.f7.results.toList = some r7 := by kernel_rfl
theorem fn7 : Try.prog.funcs[7]? = some Try.f7 := by kernel_rfl
theorem nn7 : (Try.f7.name == "runtime.NumGoroutine") = false := by kernel_rfl
theorem nt7 : Try.f7.ntmps = 97 := by kernel_rfl
def c45T1 : ICode :=
  (.keep [4] (.seq (.ops [⟨(some 35), (.mv (.t 4)), none⟩,
    ⟨(some 2), (.mv (.t 35)), none⟩])
  .ret))
theorem w45T1 {x : Cx} {Q : QT} {ks : List Kont} {fr : Fr} {H : AHeap} {ms : List Nat} : W x Q c45T1 ks fr H ms = W x Q (.keep [4] (.seq (.ops [⟨(some 35), (.mv (.t 4)), none⟩,
      ⟨(some 2), (.mv (.t 35)), none⟩])
    .ret)) ks fr H ms := rfl
/- live: [3, 4, 11, 12] -/
def c45L0 : ICode :=
  (.seq (.ops [⟨(some 13), (.bin .lss (.t 12) (.t 11)), none⟩])
  (.seq (.cond (.t 13)
    .skip
    (.exit 0))
  (.seq (.block 1 (.seq (.ops [⟨(some 14), (.mv (.t 12)), none⟩,
    ⟨(some 5), (.mv (.t 14)), none⟩])
  (.seq (.draw 0 [] (.early 1 ⟨(some 15), (.mv (.t 3)), none⟩
    (.early 1 ⟨(some 16), (.mv (.t 5)), none⟩
    (.early 1 ⟨(some 17), (.bin .add (.t 16) (.k (I 1))), none⟩
    (.early 1 ⟨(some 18), (.ixS 1 (.t 15) (.t 17)), none⟩
    (.early 1 ⟨(some 19), (.load false 1 (.t 18)), none⟩
    (.early 1 ⟨(some 20), (.mv (.t 3)), none⟩
    (.early 1 ⟨(some 21), (.mv (.t 5)), none⟩
    (.early 1 ⟨(some 22), (.ixS 1 (.t 20) (.t 21)), none⟩
    (.early 1 ⟨(some 23), (.load false 1 (.t 22)), none⟩
    (.early 0 ⟨(some 24), (.bin .gtr (.t 19) (.t 23)), none⟩
    (.early 0 ⟨(some 6), (.mv (.t 24)), none⟩
    .done))))))))))))
  (.keep [3, 4, 5, 6, 11, 12] (.seq (.ops [⟨(some 25), (.mv (.t 6)), none⟩,
    ⟨(some 26), (.mv (.t 5)), none⟩,
    ⟨(some 27), (.bin .rem (.t 26) (.k (I 2))), none⟩,
    ⟨(some 28), (.bin .eql (.t 27) (.k (I 0))), none⟩,
    ⟨(some 29), (.eqb false (.t 25) (.t 28)), none⟩])
  (.cond (.t 29)
    (.ops [⟨(some 30), (.mv (.t 4)), none⟩,
      ⟨(some 31), (.mv (.t 5)), none⟩,
      ⟨(some 32), (.bin .shl (.k (I 1)) (.t 31)), none⟩,
      ⟨(some 33), (.bin .or (.t 30) (.t 32)), none⟩,
      ⟨(some 4), (.mv (.t 33)), none⟩])
    .skip))))))
  (.ops [⟨(some 34), (.bin .add (.t 12) (.k (I 1))), none⟩,
    ⟨(some 12), (.mv (.t 34)), none⟩]))))
theorem w45L0 {x : Cx} {Q : QT} {ks : List Kont} {fr : Fr} {H : AHeap} {ms : List Nat} : W x Q c45L0 ks fr H ms = W x Q (.seq (.ops [⟨(some 13), (.bin .lss (.t 12) (.t 11)), none⟩])
    (.seq (.cond (.t 13)
      .skip
      (.exit 0))
    (.seq (.block 1 (.seq (.ops [⟨(some 14), (.mv (.t 12)), none⟩,
      ⟨(some 5), (.mv (.t 14)), none⟩])
    (.seq (.draw 0 [] (.early 1 ⟨(some 15), (.mv (.t 3)), none⟩
      (.early 1 ⟨(some 16), (.mv (.t 5)), none⟩
      (.early 1 ⟨(some 17), (.bin .add (.t 16) (.k (I 1))), none⟩
      (.early 1 ⟨(some 18), (.ixS 1 (.t 15) (.t 17)), none⟩
      (.early 1 ⟨(some 19), (.load false 1 (.t 18)), none⟩
      (.early 1 ⟨(some 20), (.mv (.t 3)), none⟩
      (.early 1 ⟨(some 21), (.mv (.t 5)), none⟩
      (.early 1 ⟨(some 22), (.ixS 1 (.t 20) (.t 21)), none⟩
      (.early 1 ⟨(some 23), (.load false 1 (.t 22)), none⟩
      (.early 0 ⟨(some 24), (.bin .gtr (.t 19) (.t 23)), none⟩
      (.early 0 ⟨(some 6), (.mv (.t 24)), none⟩
      .done))))))))))))
    (.keep [3, 4, 5, 6, 11, 12] (.seq (.ops [⟨(some 25), (.mv (.t 6)), none⟩,
      ⟨(some 26), (.mv (.t 5)), none⟩,
      ⟨(some 27), (.bin .rem (.t 26) (.k (I 2))), none⟩,
      ⟨(some 28), (.bin .eql (.t 27) (.k (I 0))), none⟩,
      ⟨(some 29), (.eqb false (.t 25) (.t 28)), none⟩])
    (.cond (.t 29)
      (.ops [⟨(some 30), (.mv (.t 4)), none⟩,
        ⟨(some 31), (.mv (.t 5)), none⟩,
        ⟨(some 32), (.bin .shl (.k (I 1)) (.t 31)), none⟩,
        ⟨(some 33), (.bin .or (.t 30) (.t 32)), none⟩,
        ⟨(some 4), (.mv (.t 33)), none⟩])
      .skip))))))
    (.ops [⟨(some 34), (.bin .add (.t 12) (.k (I 1))), none⟩,
      ⟨(some 12), (.mv (.t 34)), none⟩])))) ks fr H ms := rfl
def c45 : ICode :=
  (.seq (.ops [⟨(some 2), (.mv (.k (I 0))), none⟩])
  (.seq (.ops [⟨(some 7), (.mv (.t 0)), none⟩,
    ⟨(some 8), (.call (.k (.fn (.func 70) [] [])) [(.t 7)]), none⟩,
    ⟨(some 3), (.mv (.t 8)), none⟩])
  (.seq (.ops [⟨(some 4), (.mv (.k (I 0))), none⟩])
  (.seq (.seq (.ops [⟨(some 9), (.mv (.t 0)), none⟩,
    ⟨(some 10), (.len (.t 9)), none⟩,
    ⟨(some 11), (.bin .sub (.t 10) (.k (I 1))), none⟩,
    ⟨(some 12), (.mv (.k (I 0))), none⟩])
  (.block 0 (.loop c45L0)))
  c45T1))))
theorem w45 {x : Cx} {Q : QT} {ks : List Kont} {fr : Fr} {H : AHeap} {ms : List Nat} : W x Q c45 ks fr H ms = W x Q (.seq (.ops [⟨(some 2), (.mv (.k (I 0))), none⟩])
    (.seq (.ops [⟨(some 7), (.mv (.t 0)), none⟩,
      ⟨(some 8), (.call (.k (.fn (.func 70) [] [])) [(.t 7)]), none⟩,
      ⟨(some 3), (.mv (.t 8)), none⟩])
    (.seq (.ops [⟨(some 4), (.mv (.k (I 0))), none⟩])
    (.seq (.seq (.ops [⟨(some 9), (.mv (.t 0)), none⟩,
      ⟨(some 10), (.len (.t 9)), none⟩,
      ⟨(some 11), (.bin .sub (.t 10) (.k (I 1))), none⟩,
      ⟨(some 12), (.mv (.k (I 0))), none⟩])
    (.block 0 (.loop c45L0)))
    c45T1)))) ks fr H ms := rfl
def r45 : List IRes := [(.tmp 2)]
theorem t45 : Try.f45.body.bind (trCode Try.prog Try.f45.ntmps) = some (strip c45) := by kernel_rfl
theorem q45 : trRes Try.prog Try.f45.results.toList = some r45 := by kernel_rfl
theorem fn45 : Try.prog.funcs[45]? = some Try.f45 := by kernel_rfl
theorem nn45 : (Try.f45.name == "runtime.NumGoroutine") = false := by kernel_rfl
theorem nt45 : Try.f45.ntmps = 36 := by kernel_rfl
def c63T1 : ICode :=
  (.keep [4] (.seq (.ops [⟨(some 35), (.mv (.t 4)), none⟩,
    ⟨(some 2), (.mv (.t 35)), none⟩])
  .ret))
theorem w63T1 {x : Cx} {Q : QT} {ks : List Kont} {fr : Fr} {H : AHeap} {ms : List Nat} : W x Q c63T1 ks fr H ms = W x Q (.keep [4] (.seq (.ops [⟨(some 35), (.mv (.t 4)), none⟩,
      ⟨(some 2), (.mv (.t 35)), none⟩])
    .ret)) ks fr H ms := rfl
/- live: [3, 4, 11, 12] -/
def c63L0 : ICode :=
  (.seq (.ops [⟨(some 13), (.bin .lss (.t 12) (.t 11)), none⟩])
  (.seq (.cond (.t 13)
    .skip
    (.exit 0))
  (.seq (.block 1 (.seq (.ops [⟨(some 14), (.mv (.t 12)), none⟩,
    ⟨(some 5), (.mv (.t 14)), none⟩])
  (.seq (.draw 0 [] (.early 1 ⟨(some 15), (.mv (.t 3)), none⟩
    (.early 1 ⟨(some 16), (.mv (.t 5)), none⟩
    (.early 1 ⟨(some 17), (.bin .add (.t 16) (.k (I 1))), none⟩
    (.early 1 ⟨(some 18), (.ixS 1 (.t 15) (.t 17)), none⟩
    (.early 1 ⟨(some 19), (.load false 1 (.t 18)), none⟩
    (.early 1 ⟨(some 20), (.mv (.t 3)), none⟩
    (.early 1 ⟨(some 21), (.mv (.t 5)), none⟩
    (.early 1 ⟨(some 22), (.ixS 1 (.t 20) (.t 21)), none⟩
    (.early 1 ⟨(some 23), (.load false 1 (.t 22)), none⟩
    (.early 0 ⟨(some 24), (.bin .gtr (.t 19) (.t 23)), none⟩
    (.early 0 ⟨(some 6), (.mv (.t 24)), none⟩
    .done))))))))))))
  (.keep [3, 4, 5, 6, 11, 12] (.seq (.ops [⟨(some 25), (.mv (.t 6)), none⟩,
    ⟨(some 26), (.mv (.t 5)), none⟩,
    ⟨(some 27), (.bin .rem (.t 26) (.k (I 2))), none⟩,
    ⟨(some 28), (.bin .eql (.t 27) (.k (I 0))), none⟩,
    ⟨(some 29), (.eqb false (.t 25) (.t 28)), none⟩])
  (.cond (.t 29)
    (.ops [⟨(some 30), (.mv (.t 4)), none⟩,
      ⟨(some 31), (.mv (.t 5)), none⟩,
      ⟨(some 32), (.bin .shl (.k (I 1)) (.t 31)), none⟩,
      ⟨(some 33), (.bin .or (.t 30) (.t 32)), none⟩,
      ⟨(some 4), (.mv (.t 33)), none⟩])
    .skip))))))
  (.ops [⟨(some 34), (.bin .add (.t 12) (.k (I 1))), none⟩,
    ⟨(some 12), (.mv (.t 34)), none⟩]))))
theorem w63L0 {x : Cx} {Q : QT} {ks : List Kont} {fr : Fr} {H : AHeap} {ms : List Nat} : W x Q c63L0 ks fr H ms = W x Q (.seq (.ops [⟨(some 13), (.bin .lss (.t 12) (.t 11)), none⟩])
    (.seq (.cond (.t 13)
      .skip
      (.exit 0))
    (.seq (.block 1 (.seq (.ops [⟨(some 14), (.mv (.t 12)), none⟩,
      ⟨(some 5), (.mv (.t 14)), none⟩])
    (.seq (.draw 0 [] (.early 1 ⟨(some 15), (.mv (.t 3)), none⟩
      (.early 1 ⟨(some 16), (.mv (.t 5)), none⟩
      (.early 1 ⟨(some 17), (.bin .add (.t 16) (.k (I 1))), none⟩
      (.early 1 ⟨(some 18), (.ixS 1 (.t 15) (.t 17)), none⟩
      (.early 1 ⟨(some 19), (.load false 1 (.t 18)), none⟩
      (.early 1 ⟨(some 20), (.mv (.t 3)), none⟩
      (.early 1 ⟨(some 21), (.mv (.t 5)), none⟩
      (.early 1 ⟨(some 22), (.ixS 1 (.t 20) (.t 21)), none⟩
      (.early 1 ⟨(some 23), (.load false 1 (.t 22)), none⟩
      (.early 0 ⟨(some 24), (.bin .gtr (.t 19) (.t 23)), none⟩
      (.early 0 ⟨(some 6), (.mv (.t 24)), none⟩
      .done))))))))))))
    (.keep [3, 4, 5, 6, 11, 12] (.seq (.ops [⟨(some 25), (.mv (.t 6)), none⟩,
      ⟨(some 26), (.mv (.t 5)), none⟩,
      ⟨(some 27), (.bin .rem (.t 26) (.k (I 2))), none⟩,
      ⟨(some 28), (.bin .eql (.t 27) (.k (I 0))), none⟩,
      ⟨(some 29), (.eqb false (.t 25) (.t 28)), none⟩])
    (.cond (.t 29)
      (.ops [⟨(some 30), (.mv (.t 4)), none⟩,
        ⟨(some 31), (.mv (.t 5)), none⟩,
        ⟨(some 32), (.bin .shl (.k (I 1)) (.t 31)), none⟩,
        ⟨(some 33), (.bin .or (.t 30) (.t 32)), none⟩,
        ⟨(some 4), (.mv (.t 33)), none⟩])
      .skip))))))
    (.ops [⟨(some 34), (.bin .add (.t 12) (.k (I 1))), none⟩,
      ⟨(some 12), (.mv (.t 34)), none⟩])))) ks fr H ms := rfl
def c63 : ICode :=
  (.seq (.ops [⟨(some 2), (.mv (.k (I 0))), none⟩])
  (.seq (.ops [⟨(some 7), (.mv (.t 0)), none⟩,
    ⟨(some 8), (.call (.k (.fn (.func 51) [] [])) [(.t 7)]), none⟩,
    ⟨(some 3), (.mv (.t 8)), none⟩])
  (.seq (.ops [⟨(some 4), (.mv (.k (I 0))), none⟩])
  (.seq (.seq (.ops [⟨(some 9), (.mv (.t 0)), none⟩,
    ⟨(some 10), (.len (.t 9)), none⟩,
    ⟨(some 11), (.bin .sub (.t 10) (.k (I 1))), none⟩,
    ⟨(some 12), (.mv (.k (I 0))), none⟩])
  (.block 0 (.loop c63L0)))
  c63T1))))
theorem w63 {x : Cx} {Q : QT} {ks : List Kont} {fr : Fr} {H : AHeap} {ms : List Nat} : W x Q c63 ks fr H ms = W x Q (.seq (.ops [⟨(some 2), (.mv (.k (I 0))), none⟩])
    (.seq (.ops [⟨(some 7), (.mv (.t 0)), none⟩,
      ⟨(some 8), (.call (.k (.fn (.func 51) [] [])) [(.t 7)]), none⟩,
      ⟨(some 3), (.mv (.t 8)), none⟩])
    (.seq (.ops [⟨(some 4), (.mv (.k (I 0))), none⟩])
    (.seq (.seq (.ops [⟨(some 9), (.mv (.t 0)), none⟩,
      ⟨(some 10), (.len (.t 9)), none⟩,
      ⟨(some 11), (.bin .sub (.t 10) (.k (I 1))), none⟩,
      ⟨(some 12), (.mv (.k (I 0))), none⟩])
    (.block 0 (.loop c63L0)))
    c63T1)))) ks fr H ms := rfl
def r63 : List IRes := [(.tmp 2)]
theorem t63 : Try.f63.body.bind (trCode Try.prog Try.f63.ntmps) = some (strip c63) := by kernel_rfl
theorem q63 : trRes Try.prog Try.f63.results.toList = some r63 := by kernel_rfl
theorem fn63 : Try.prog.funcs[63]? = some Try.f63 := by kernel_rfl
theorem nn63 : (Try.f63.name == "runtime.NumGoroutine") = false := by kernel_rfl
theorem nt63 : Try.f63.ntmps = 36 := by kernel_rfl
def c42 : ICode :=
  (.seq (.ops [⟨(some 2), (.mv (.k (I 0))), none⟩,
    ⟨(some 3), (.mv (.k (I 0))), none⟩])
  (.seq (.seq (.ops [⟨(some 7), (.mv (.t 0)), none⟩,
    ⟨(some 8), (.call (.k (.fn (.func 15) [] [])) [(.t 7)]), none⟩,
    ⟨(some 6), (.mv (.t 8)), none⟩,
    ⟨(some 9), (.ext (.t 6) 0), none⟩,
    ⟨(some 10), (.ext (.t 6) 1), none⟩,
    ⟨(some 4), (.mv (.t 9)), none⟩,
    ⟨(some 5), (.mv (.t 10)), none⟩])
  (.block 0 (.seq (.ops [⟨(some 12), (.mv (.t 5)), none⟩,
    ⟨(some 13), (.bin .neq (.t 12) (.k (I 0))), none⟩,
    ⟨(some 11), (.mv (.t 13)), none⟩])
  (.cond (.t 11)
    (.seq (.ops [⟨(some 14), (.mv (.t 5)), none⟩,
      ⟨(some 2), (.mv (.k (I 0))), none⟩,
      ⟨(some 3), (.mv (.t 14)), none⟩])
    .ret)
    (.seq (.ops [⟨(some 16), (.mv (.t 4)), none⟩,
      ⟨(some 17), (.un .not (.t 16)), none⟩,
      ⟨(some 15), (.mv (.t 17)), none⟩])
    (.cond (.t 15)
      (.seq (.ops [⟨(some 2), (.mv (.k (I 0))), none⟩,
        ⟨(some 3), (.mv (.k (I 5))), none⟩])
      .ret)
      .skip))))))
  (.seq (.ops [⟨(some 18), (.mv (.t 0)), none⟩,
    ⟨(some 19), (.call (.k (.fn (.func 63) [] [])) [(.t 18)]), none⟩,
    ⟨(some 2), (.mv (.t 19)), none⟩,
    ⟨(some 3), (.mv (.k (I 0))), none⟩])
  .ret)))
theorem w42 {x : Cx} {Q : QT} {ks : List Kont} {fr : Fr} {H : AHeap} {ms : List Nat} : W x Q c42 ks fr H ms = W x Q (.seq (.ops [⟨(some 2), (.mv (.k (I 0))), none⟩,
      ⟨(some 3), (.mv (.k (I 0))), none⟩])
    (.seq (.seq (.ops [⟨(some 7), (.mv (.t 0)), none⟩,
      ⟨(some 8), (.call (.k (.fn (.func 15) [] [])) [(.t 7)]), none⟩,
      ⟨(some 6), (.mv (.t 8)), none⟩,
      ⟨(some 9), (.ext (.t 6) 0), none⟩,
      ⟨(some 10), (.ext (.t 6) 1), none⟩,
      ⟨(some 4), (.mv (.t 9)), none⟩,
      ⟨(some 5), (.mv (.t 10)), none⟩])
    (.block 0 (.seq (.ops [⟨(some 12), (.mv (.t 5)), none⟩,
      ⟨(some 13), (.bin .neq (.t 12) (.k (I 0))), none⟩,
      ⟨(some 11), (.mv (.t 13)), none⟩])
    (.cond (.t 11)
      (.seq (.ops [⟨(some 14), (.mv (.t 5)), none⟩,
        ⟨(some 2), (.mv (.k (I 0))), none⟩,
        ⟨(some 3), (.mv (.t 14)), none⟩])
      .ret)
      (.seq (.ops [⟨(some 16), (.mv (.t 4)), none⟩,
        ⟨(some 17), (.un .not (.t 16)), none⟩,
        ⟨(some 15), (.mv (.t 17)), none⟩])
      (.cond (.t 15)
        (.seq (.ops [⟨(some 2), (.mv (.k (I 0))), none⟩,
          ⟨(some 3), (.mv (.k (I 5))), none⟩])
        .ret)
        .skip))))))
    (.seq (.ops [⟨(some 18), (.mv (.t 0)), none⟩,
      ⟨(some 19), (.call (.k (.fn (.func 63) [] [])) [(.t 18)]), none⟩,
      ⟨(some 2), (.mv (.t 19)), none⟩,
      ⟨(some 3), (.mv (.k (I 0))), none⟩])
    .ret))) ks fr H ms := rfl
def r42 : List IRes := [(.tmp 2), (.tmp 3)]
theorem t42 : Try.f42.body.bind (trCode Try.prog Try.f42.ntmps) = some (strip c42) := by kernel_rfl
theorem q42 : trRes Try.prog Try.f42.results.toList = some r42 := by kernel_rfl
theorem fn42 : Try.prog.funcs[42]? = some Try.f42 := by kernel_rfl
theorem nn42 : (Try.f42.name == "runtime.NumGoroutine") = false := by kernel_rfl
theorem nt42 : Try.f42.ntmps = 20 := by kernel_rfl
def c62 : ICode :=
  (.seq (.ops [⟨(some 3), (.mv (.k (B false))), none⟩])
  (.seq (.draw 0 [] (.early 1 ⟨(some 4), (.mv (.t 0)), none⟩
    (.early 1 ⟨(some 5), (.call (.k (.fn (.func 63) [] [])) [(.t 4)]), none⟩
    (.early 1 ⟨(some 6), (.load false 1 (.t 1)), none⟩
    (.early 0 ⟨(some 7), (.bin .eql (.t 5) (.t 6)), none⟩
    (.early 0 ⟨(some 3), (.mv (.t 7)), none⟩
    .done))))))
  (.keep [3] .ret)))
theorem w62 {x : Cx} {Q : QT} {ks : List Kont} {fr : Fr} {H : AHeap} {ms : List Nat} : W x Q c62 ks fr H ms = W x Q (.seq (.ops [⟨(some 3), (.mv (.k (B false))), none⟩])
    (.seq (.draw 0 [] (.early 1 ⟨(some 4), (.mv (.t 0)), none⟩
      (.early 1 ⟨(some 5), (.call (.k (.fn (.func 63) [] [])) [(.t 4)]), none⟩
      (.early 1 ⟨(some 6), (.load false 1 (.t 1)), none⟩
      (.early 0 ⟨(some 7), (.bin .eql (.t 5) (.t 6)), none⟩
      (.early 0 ⟨(some 3), (.mv (.t 7)), none⟩
      .done))))))
    (.keep [3] .ret))) ks fr H ms := rfl
def r62 : List IRes := [(.tmp 3)]
theorem t62 : Try.f62.body.bind (trCode Try.prog Try.f62.ntmps) = some (strip c62) := by kernel_rfl
theorem q62 : trRes Try.prog Try.f62.results.toList = some r62 := by kernel_rfl
theorem fn62 : Try.prog.funcs[62]? = some Try.f62 := by kernel_rfl
theorem nn62 : (Try.f62.name == "runtime.NumGoroutine") = false := by kernel_rfl
theorem nt62 : Try.f62.ntmps = 8 := by kernel_rfl
def c61 : ICode :=
  (.seq (.ops [⟨(some 4), (.mv (.k (B false))), none⟩])
  (.seq (.ops [⟨(some 5), (.mv (.t 0)), none⟩,
    ⟨(some 6), (.call (.k (.fn (.func 57) [] [])) [(.t 5)]), none⟩,
    ⟨(some 7), (.mv (.t 6)), none⟩,
    ⟨(some 8), (.mv (.t 1)), (some (7, true))⟩,
    ⟨(some 9), (.bin .geq (.t 8) (.k (I 0))), (some (7, true))⟩,
    ⟨(some 10), (.pick (.t 7) (.t 9) (.k (B false))), none⟩,
    ⟨(some 11), (.mv (.t 10)), none⟩,
    ⟨(some 12), (.mv (.t 1)), (some (11, true))⟩,
    ⟨(some 13), (.mv (.t 0)), (some (11, true))⟩,
    ⟨(some 14), (.bin .sub (.t 13) (.k (I 1))), (some (11, true))⟩,
    ⟨(some 15), (.bin .shl (.k (I 1)) (.t 14)), (some (11, true))⟩,
    ⟨(some 16), (.bin .lss (.t 12) (.t 15)), (some (11, true))⟩,
    ⟨(some 17), (.pick (.t 11) (.t 16) (.k (B false))), none⟩,
    ⟨(some 4), (.mv (.t 17)), none⟩])
  .ret))
theorem w61 {x : Cx} {Q : QT} {ks : List Kont} {fr : Fr} {H : AHeap} {ms : List Nat} : W x Q c61 ks fr H ms = W x Q (.seq (.ops [⟨(some 4), (.mv (.k (B false))), none⟩])
    (.seq (.ops [⟨(some 5), (.mv (.t 0)), none⟩,
      ⟨(some 6), (.call (.k (.fn (.func 57) [] [])) [(.t 5)]), none⟩,
      ⟨(some 7), (.mv (.t 6)), none⟩,
      ⟨(some 8), (.mv (.t 1)), (some (7, true))⟩,
      ⟨(some 9), (.bin .geq (.t 8) (.k (I 0))), (some (7, true))⟩,
      ⟨(some 10), (.pick (.t 7) (.t 9) (.k (B false))), none⟩,
      ⟨(some 11), (.mv (.t 10)), none⟩,
      ⟨(some 12), (.mv (.t 1)), (some (11, true))⟩,
      ⟨(some 13), (.mv (.t 0)), (some (11, true))⟩,
      ⟨(some 14), (.bin .sub (.t 13) (.k (I 1))), (some (11, true))⟩,
      ⟨(some 15), (.bin .shl (.k (I 1)) (.t 14)), (some (11, true))⟩,
      ⟨(some 16), (.bin .lss (.t 12) (.t 15)), (some (11, true))⟩,
      ⟨(some 17), (.pick (.t 11) (.t 16) (.k (B false))), none⟩,
      ⟨(some 4), (.mv (.t 17)), none⟩])
    .ret)) ks fr H ms := rfl
def r61 : List IRes := [(.tmp 4)]
theorem t61 : Try.f61.body.bind (trCode Try.prog Try.f61.ntmps) = some (strip c61) := by kernel_rfl
theorem q61 : trRes Try.prog Try.f61.results.toList = some r61 := by kernel_rfl
theorem fn61 : Try.prog.funcs[61]? = some Try.f61 := by kernel_rfl
theorem nn61 : (Try.f61.name == "runtime.NumGoroutine") = false := by kernel_rfl
theorem nt61 : Try.f61.ntmps = 18 := by kernel_rfl
def c26 : ICode :=
  (.seq (.ops [⟨(some 3), (.box (.t 1)), none⟩,
    ⟨(some 4), (.mv (.k (I 0))), none⟩,
    ⟨(some 5), (.mv (.k (I 0))), none⟩])
  (.seq (.seq (.ops [⟨(some 6), (.mv (.t 0)), none⟩,
    ⟨(some 7), (.load false 1 (.t 3)), none⟩,
    ⟨(some 8), (.call (.k (.fn (.func 61) [] [])) [(.t 6), (.t 7)]), none⟩,
    ⟨(some 9), (.un .not (.t 8)), none⟩])
  (.cond (.t 9)
    (.seq (.ops [⟨(some 4), (.mv (.k (I 0))), none⟩,
      ⟨(some 5), (.mv (.k (I 2))), none⟩])
    .ret)
    .skip))
  (.seq (.ops [⟨(some 10), (.mv (.t 0)), none⟩,
    ⟨(some 11), (.mkfn (.func 62) [] [(.t 3)]), none⟩,
    ⟨(some 12), (.call (.k (.fn (.func 58) [] [])) [(.t 10), (.t 11)]), none⟩,
    ⟨(some 4), (.mv (.t 12)), none⟩,
    ⟨(some 5), (.mv (.k (I 0))), none⟩])
  .ret)))
theorem w26 {x : Cx} {Q : QT} {ks : List Kont} {fr : Fr} {H : AHeap} {ms : List Nat} : W x Q c26 ks fr H ms = W x Q (.seq (.ops [⟨(some 3), (.box (.t 1)), none⟩,
      ⟨(some 4), (.mv (.k (I 0))), none⟩,
      ⟨(some 5), (.mv (.k (I 0))), none⟩])
    (.seq (.seq (.ops [⟨(some 6), (.mv (.t 0)), none⟩,
      ⟨(some 7), (.load false 1 (.t 3)), none⟩,
      ⟨(some 8), (.call (.k (.fn (.func 61) [] [])) [(.t 6), (.t 7)]), none⟩,
      ⟨(some 9), (.un .not (.t 8)), none⟩])
    (.cond (.t 9)
      (.seq (.ops [⟨(some 4), (.mv (.k (I 0))), none⟩,
        ⟨(some 5), (.mv (.k (I 2))), none⟩])
      .ret)
      .skip))
    (.seq (.ops [⟨(some 10), (.mv (.t 0)), none⟩,
      ⟨(some 11), (.mkfn (.func 62) [] [(.t 3)]), none⟩,
      ⟨(some 12), (.call (.k (.fn (.func 58) [] [])) [(.t 10), (.t 11)]), none⟩,
      ⟨(some 4), (.mv (.t 12)), none⟩,
      ⟨(some 5), (.mv (.k (I 0))), none⟩])
    .ret))) ks fr H ms := rfl
def r26 : List IRes := [(.tmp 4), (.tmp 5)]
theorem t26 : Try.f26.body.bind (trCode Try.prog Try.f26.ntmps) = some (strip c26) := by kernel_rfl
theorem q26 : trRes Try.prog Try.f26.results.toList = some r26 := by kernel_rfl
theorem fn26 : Try.prog.funcs[26]? = some Try.f26 := by kernel_rfl
theorem nn26 : (Try.f26.name == "runtime.NumGoroutine") = false := by kernel_rfl
theorem nt26 : Try.f26.ntmps = 13 := by kernel_rfl
def c33R0a : ICode :=
  (.ops [⟨(some 6), (.mv (.t 13)), none⟩])
theorem w33R0a {x : Cx} {Q : QT} {ks : List Kont} {fr : Fr} {H : AHeap} {ms : List Nat} : W x Q c33R0a ks fr H ms = W x Q (.ops [⟨(some 6), (.mv (.t 13)), none⟩]) ks fr H ms := rfl
theorem t33R0a : trCode Try.prog 20 (asOf Try.f33 0) = some (strip c33R0a) := by kernel_rfl
def c33R0b : ICode :=
  (.block 1 (.seq (.draw 0 [] (.early 1 ⟨(some 14), (.mv (.t 6)), none⟩
    (.early 1 ⟨(some 15), (.call (.k (.fn (.func 63) [] [])) [(.t 14)]), none⟩
    (.early 1 ⟨(some 16), (.load false 1 (.t 3)), none⟩
    (.early 0 ⟨(some 17), (.bin .eql (.t 15) (.t 16)), none⟩
    .done)))))
  (.cond (.t 17)
    (.seq (.ops [⟨(some 18), (.mv (.t 6)), none⟩,
      ⟨(some 19), (.call (.k (.fn (.func 44) [] [])) [(.t 18)]), none⟩,
      ⟨none, (.store 1 (.t 4) (.t 19)), none⟩,
      ⟨none, (.store 1 (.t 5) (.k (I 0))), none⟩])
    .ret)
    .skip)))
theorem w33R0b {x : Cx} {Q : QT} {ks : List Kont} {fr : Fr} {H : AHeap} {ms : List Nat} : W x Q c33R0b ks fr H ms = W x Q (.block 1 (.seq (.draw 0 [] (.early 1 ⟨(some 14), (.mv (.t 6)), none⟩
      (.early 1 ⟨(some 15), (.call (.k (.fn (.func 63) [] [])) [(.t 14)]), none⟩
      (.early 1 ⟨(some 16), (.load false 1 (.t 3)), none⟩
      (.early 0 ⟨(some 17), (.bin .eql (.t 15) (.t 16)), none⟩
      .done)))))
    (.cond (.t 17)
      (.seq (.ops [⟨(some 18), (.mv (.t 6)), none⟩,
        ⟨(some 19), (.call (.k (.fn (.func 44) [] [])) [(.t 18)]), none⟩,
        ⟨none, (.store 1 (.t 4) (.t 19)), none⟩,
        ⟨none, (.store 1 (.t 5) (.k (I 0))), none⟩])
      .ret)
      .skip))) ks fr H ms := rfl
theorem t33R0b : trCode Try.prog 20 (bdOf Try.f33 0) = some (strip c33R0b) := by kernel_rfl
def c33T0 : ICode :=
  (.seq (.ops [⟨none, (.store 1 (.t 4) (.k nilSl)), none⟩,
    ⟨none, (.store 1 (.t 5) (.k (I 4))), none⟩])
  .ret)
theorem w33T0 {x : Cx} {Q : QT} {ks : List Kont} {fr : Fr} {H : AHeap} {ms : List Nat} : W x Q c33T0 ks fr H ms = W x Q (.seq (.ops [⟨none, (.store 1 (.t 4) (.k nilSl)), none⟩,
      ⟨none, (.store 1 (.t 5) (.k (I 4))), none⟩])
    .ret) ks fr H ms := rfl
noncomputable def c33 : ICode :=
  (.seq (.ops [⟨(some 3), (.box (.t 1)), none⟩,
    ⟨(some 4), (.alloc [nilSl]), none⟩,
    ⟨(some 5), (.alloc [(I 0)]), none⟩])
  (.seq (.seq (.ops [⟨(some 7), (.mv (.t 0)), none⟩,
    ⟨(some 8), (.load false 1 (.t 3)), none⟩,
    ⟨(some 9), (.call (.k (.fn (.func 61) [] [])) [(.t 7), (.t 8)]), none⟩,
    ⟨(some 10), (.un .not (.t 9)), none⟩])
  (.cond (.t 10)
    (.seq (.ops [⟨none, (.store 1 (.t 4) (.k nilSl)), none⟩,
      ⟨none, (.store 1 (.t 5) (.k (I 2))), none⟩])
    .ret)
    .skip))
  (.seq (.seq (.ops [⟨(some 11), (.mv (.t 0)), none⟩,
    ⟨(some 12), (.call (.k (.fn (.func 65) [] [])) [(.t 11)]), none⟩])
  (.block 0 (.range (.t 12) [13] (asOf Try.f33 0) (bdOf Try.f33 0))))
  c33T0)))
theorem w33 {x : Cx} {Q : QT} {ks : List Kont} {fr : Fr} {H : AHeap} {ms : List Nat} : W x Q c33 ks fr H ms = W x Q (.seq (.ops [⟨(some 3), (.box (.t 1)), none⟩,
      ⟨(some 4), (.alloc [nilSl]), none⟩,
      ⟨(some 5), (.alloc [(I 0)]), none⟩])
    (.seq (.seq (.ops [⟨(some 7), (.mv (.t 0)), none⟩,
      ⟨(some 8), (.load false 1 (.t 3)), none⟩,
      ⟨(some 9), (.call (.k (.fn (.func 61) [] [])) [(.t 7), (.t 8)]), none⟩,
      ⟨(some 10), (.un .not (.t 9)), none⟩])
    (.cond (.t 10)
      (.seq (.ops [⟨none, (.store 1 (.t 4) (.k nilSl)), none⟩,
        ⟨none, (.store 1 (.t 5) (.k (I 2))), none⟩])
      .ret)
      .skip))
    (.seq (.seq (.ops [⟨(some 11), (.mv (.t 0)), none⟩,
      ⟨(some 12), (.call (.k (.fn (.func 65) [] [])) [(.t 11)]), none⟩])
    (.block 0 (.range (.t 12) [13] (asOf Try.f33 0) (bdOf Try.f33 0))))
    c33T0))) ks fr H ms := rfl
def r33 : List IRes := [(.cell false 1 4), (.cell false 1 5)]
theorem t33 : Try.f33.body.bind (trCode Try.prog Try.f33.ntmps) = some (strip c33) := by kernel_rfl
theorem q33 : trRes Try.prog Try.f33.results.toList = some r33 := by kernel_rfl
theorem fn33 : Try.prog.funcs[33]? = some Try.f33 := by kernel_rfl
theorem nn33 : (Try.f33.name == "runtime.NumGoroutine") = false := by kernel_rfl
theorem nt33 : Try.f33.ntmps = 20 := by kernel_rfl
def c34T1 : ICode :=
  (.keep [] (.seq (.ops [⟨(some 4), (.mv (.k nilSl)), none⟩])
  .ret))
theorem w34T1 {x : Cx} {Q : QT} {ks : List Kont} {fr : Fr} {H : AHeap} {ms : List Nat} : W x Q c34T1 ks fr H ms = W x Q (.keep [] (.seq (.ops [⟨(some 4), (.mv (.k nilSl)), none⟩])
    .ret)) ks fr H ms := rfl
/- live: [1, 8, 9, 10] -/
def c34L0 : ICode :=
  (.seq (.ops [⟨(some 11), (.bin .lss (.t 10) (.t 9)), none⟩])
  (.seq (.cond (.t 11)
    .skip
    (.exit 0))
  (.seq (.block 1 (.seq (.ops [⟨(some 12), (.ixS 1 (.t 8) (.t 10)), none⟩,
    ⟨(some 13), (.load false 1 (.t 12)), none⟩,
    ⟨(some 6), (.mv (.t 13)), none⟩])
  (.seq (.ops [⟨(some 14), (.mv (.t 6)), none⟩,
    ⟨(some 15), (.call (.k (.fn (.func 45) [] [])) [(.t 14)]), none⟩,
    ⟨(some 16), (.mv (.t 1)), none⟩,
    ⟨(some 17), (.bin .eql (.t 15) (.t 16)), none⟩,
    ⟨(some 18), (.mv (.t 17)), none⟩,
    ⟨(some 19), (.mv (.t 6)), (some (18, true))⟩,
    ⟨(some 20), (.call (.k (.fn (.func 21) [] [])) [(.t 19)]), (some (18, true))⟩,
    ⟨(some 21), (.pick (.t 18) (.t 20) (.k (B false))), none⟩])
  (.cond (.t 21)
    (.seq (.ops [⟨(some 22), (.mv (.t 6)), none⟩,
      ⟨(some 4), (.mv (.t 22)), none⟩])
    .ret)
    .skip))))
  (.ops [⟨(some 23), (.bin .add (.t 10) (.k (I 1))), none⟩,
    ⟨(some 10), (.mv (.t 23)), none⟩]))))
theorem w34L0 {x : Cx} {Q : QT} {ks : List Kont} {fr : Fr} {H : AHeap} {ms : List Nat} : W x Q c34L0 ks fr H ms = W x Q (.seq (.ops [⟨(some 11), (.bin .lss (.t 10) (.t 9)), none⟩])
    (.seq (.cond (.t 11)
      .skip
      (.exit 0))
    (.seq (.block 1 (.seq (.ops [⟨(some 12), (.ixS 1 (.t 8) (.t 10)), none⟩,
      ⟨(some 13), (.load false 1 (.t 12)), none⟩,
      ⟨(some 6), (.mv (.t 13)), none⟩])
    (.seq (.ops [⟨(some 14), (.mv (.t 6)), none⟩,
      ⟨(some 15), (.call (.k (.fn (.func 45) [] [])) [(.t 14)]), none⟩,
      ⟨(some 16), (.mv (.t 1)), none⟩,
      ⟨(some 17), (.bin .eql (.t 15) (.t 16)), none⟩,
      ⟨(some 18), (.mv (.t 17)), none⟩,
      ⟨(some 19), (.mv (.t 6)), (some (18, true))⟩,
      ⟨(some 20), (.call (.k (.fn (.func 21) [] [])) [(.t 19)]), (some (18, true))⟩,
      ⟨(some 21), (.pick (.t 18) (.t 20) (.k (B false))), none⟩])
    (.cond (.t 21)
      (.seq (.ops [⟨(some 22), (.mv (.t 6)), none⟩,
        ⟨(some 4), (.mv (.t 22)), none⟩])
      .ret)
      .skip))))
    (.ops [⟨(some 23), (.bin .add (.t 10) (.k (I 1))), none⟩,
      ⟨(some 10), (.mv (.t 23)), none⟩])))) ks fr H ms := rfl
def c34 : ICode :=
  (.seq (.ops [⟨(some 4), (.mv (.k nilSl)), none⟩])
  (.seq (.seq (.ops [⟨(some 7), (.mv (.t 0)), none⟩,
    ⟨(some 8), (.call (.k (.fn (.func 66) [] [])) [(.t 7), (.k nilSl)]), none⟩,
    ⟨(some 9), (.len (.t 8)), none⟩,
    ⟨(some 10), (.mv (.k (I 0))), none⟩])
  (.block 0 (.loop c34L0)))
  c34T1))
theorem w34 {x : Cx} {Q : QT} {ks : List Kont} {fr : Fr} {H : AHeap} {ms : List Nat} : W x Q c34 ks fr H ms = W x Q (.seq (.ops [⟨(some 4), (.mv (.k nilSl)), none⟩])
    (.seq (.seq (.ops [⟨(some 7), (.mv (.t 0)), none⟩,
      ⟨(some 8), (.call (.k (.fn (.func 66) [] [])) [(.t 7), (.k nilSl)]), none⟩,
      ⟨(some 9), (.len (.t 8)), none⟩,
      ⟨(some 10), (.mv (.k (I 0))), none⟩])
    (.block 0 (.loop c34L0)))
    c34T1)) ks fr H ms := rfl
def r34 : List IRes := [(.tmp 4)]
theorem t34 : Try.f34.body.bind (trCode Try.prog Try.f34.ntmps) = some (strip c34) := by kernel_rfl
theorem q34 : trRes Try.prog Try.f34.results.toList = some r34 := by kernel_rfl
theorem fn34 : Try.prog.funcs[34]? = some Try.f34 := by kernel_rfl
theorem nn34 : (Try.f34.name == "runtime.NumGoroutine") = false := by kernel_rfl
theorem nt34 : Try.f34.ntmps = 24 := by kernel_rfl
def c35T1 : ICode :=
  (.keep [5] (.seq (.ops [⟨(some 22), (.mv (.t 5)), none⟩,
    ⟨(some 4), (.mv (.t 22)), none⟩])
  .ret))
theorem w35T1 {x : Cx} {Q : QT} {ks : List Kont} {fr : Fr} {H : AHeap} {ms : List Nat} : W x Q c35T1 ks fr H ms = W x Q (.keep [5] (.seq (.ops [⟨(some 22), (.mv (.t 5)), none⟩,
      ⟨(some 4), (.mv (.t 22)), none⟩])
    .ret)) ks fr H ms := rfl
/- live: [1, 5, 9, 10, 11] -/
def c35L0 : ICode :=
  (.seq (.ops [⟨(some 12), (.bin .lss (.t 11) (.t 10)), none⟩])
  (.seq (.cond (.t 12)
    .skip
    (.exit 0))
  (.seq (.block 1 (.seq (.ops [⟨(some 13), (.ixS 1 (.t 9) (.t 11)), none⟩,
    ⟨(some 14), (.load false 1 (.t 13)), none⟩,
    ⟨(some 7), (.mv (.t 14)), none⟩])
  (.seq (.ops [⟨(some 15), (.mv (.t 7)), none⟩,
    ⟨(some 16), (.call (.k (.fn (.func 45) [] [])) [(.t 15)]), none⟩,
    ⟨(some 17), (.mv (.t 1)), none⟩,
    ⟨(some 18), (.bin .eql (.t 16) (.t 17)), none⟩])
  (.cond (.t 18)
    (.ops [⟨(some 19), (.mv (.t 5)), none⟩,
      ⟨(some 20), (.bin .add (.t 19) (.k (I 1))), none⟩,
      ⟨(some 5), (.mv (.t 20)), none⟩])
    .skip))))
  (.ops [⟨(some 21), (.bin .add (.t 11) (.k (I 1))), none⟩,
    ⟨(some 11), (.mv (.t 21)), none⟩]))))
theorem w35L0 {x : Cx} {Q : QT} {ks : List Kont} {fr : Fr} {H : AHeap} {ms : List Nat} : W x Q c35L0 ks fr H ms = W x Q (.seq (.ops [⟨(some 12), (.bin .lss (.t 11) (.t 10)), none⟩])
    (.seq (.cond (.t 12)
      .skip
      (.exit 0))
    (.seq (.block 1 (.seq (.ops [⟨(some 13), (.ixS 1 (.t 9) (.t 11)), none⟩,
      ⟨(some 14), (.load false 1 (.t 13)), none⟩,
      ⟨(some 7), (.mv (.t 14)), none⟩])
    (.seq (.ops [⟨(some 15), (.mv (.t 7)), none⟩,
      ⟨(some 16), (.call (.k (.fn (.func 45) [] [])) [(.t 15)]), none⟩,
      ⟨(some 17), (.mv (.t 1)), none⟩,
      ⟨(some 18), (.bin .eql (.t 16) (.t 17)), none⟩])
    (.cond (.t 18)
      (.ops [⟨(some 19), (.mv (.t 5)), none⟩,
        ⟨(some 20), (.bin .add (.t 19) (.k (I 1))), none⟩,
        ⟨(some 5), (.mv (.t 20)), none⟩])
      .skip))))
    (.ops [⟨(some 21), (.bin .add (.t 11) (.k (I 1))), none⟩,
      ⟨(some 11), (.mv (.t 21)), none⟩])))) ks fr H ms := rfl
def c35 : ICode :=
  (.seq (.ops [⟨(some 4), (.mv (.k (I 0))), none⟩])
  (.seq (.ops [⟨(some 5), (.mv (.k (I 0))), none⟩])
  (.seq (.seq (.ops [⟨(some 8), (.mv (.t 0)), none⟩,
    ⟨(some 9), (.call (.k (.fn (.func 29) [] [])) [(.t 8)]), none⟩,
    ⟨(some 10), (.len (.t 9)), none⟩,
    ⟨(some 11), (.mv (.k (I 0))), none⟩])
  (.block 0 (.loop c35L0)))
  c35T1)))
theorem w35 {x : Cx} {Q : QT} {ks : List Kont} {fr : Fr} {H : AHeap} {ms : List Nat} : W x Q c35 ks fr H ms = W x Q (.seq (.ops [⟨(some 4), (.mv (.k (I 0))), none⟩])
    (.seq (.ops [⟨(some 5), (.mv (.k (I 0))), none⟩])
    (.seq (.seq (.ops [⟨(some 8), (.mv (.t 0)), none⟩,
      ⟨(some 9), (.call (.k (.fn (.func 29) [] [])) [(.t 8)]), none⟩,
      ⟨(some 10), (.len (.t 9)), none⟩,
      ⟨(some 11), (.mv (.k (I 0))), none⟩])
    (.block 0 (.loop c35L0)))
    c35T1))) ks fr H ms := rfl
def r35 : List IRes := [(.tmp 4)]
theorem t35 : Try.f35.body.bind (trCode Try.prog Try.f35.ntmps) = some (strip c35) := by kernel_rfl
theorem q35 : trRes Try.prog Try.f35.results.toList = some r35 := by kernel_rfl
theorem fn35 : Try.prog.funcs[35]? = some Try.f35 := by kernel_rfl
theorem nn35 : (Try.f35.name == "runtime.NumGoroutine") = false := by kernel_rfl
theorem nt35 : Try.f35.ntmps = 23 := by kernel_rfl
def c8 : ICode :=
  (.seq (.ops [⟨(some 4), (.mv (.k (B false))), none⟩])
  (.seq (.ops [⟨(some 10), (.mv (.t 0)), none⟩,
    ⟨(some 11), (.mv (.t 1)), none⟩,
    ⟨(some 12), (.call (.k (.fn (.func 33) [] [])) [(.t 10), (.t 11)]), none⟩,
    ⟨(some 9), (.mv (.t 12)), none⟩,
    ⟨(some 13), (.ext (.t 9) 0), none⟩,
    ⟨(some 14), (.ext (.t 9) 1), none⟩,
    ⟨(some 5), (.mv (.t 13)), none⟩,
    ⟨(some 6), (.mv (.t 14)), none⟩])
  (.seq (.ops [⟨(some 16), (.mv (.t 0)), none⟩,
    ⟨(some 17), (.mv (.t 1)), none⟩,
    ⟨(some 18), (.call (.k (.fn (.func 26) [] [])) [(.t 16), (.t 17)]), none⟩,
    ⟨(some 15), (.mv (.t 18)), none⟩,
    ⟨(some 19), (.ext (.t 15) 0), none⟩,
    ⟨(some 20), (.ext (.t 15) 1), none⟩,
    ⟨(some 7), (.mv (.t 19)), none⟩,
    ⟨(some 8), (.mv (.t 20)), none⟩])
  (.seq (.seq (.ops [⟨(some 21), (.mv (.t 0)), none⟩,
    ⟨(some 22), (.bin .lss (.t 21) (.k (I 1))), none⟩,
    ⟨(some 23), (.mv (.t 22)), none⟩,
    ⟨(some 24), (.mv (.t 0)), (some (23, false))⟩,
    ⟨(some 25), (.bin .gtr (.t 24) (.k (I 7))), (some (23, false))⟩,
    ⟨(some 26), (.pick (.t 23) (.k (B true)) (.t 25)), none⟩,
    ⟨(some 27), (.mv (.t 26)), none⟩,
    ⟨(some 28), (.mv (.t 1)), (some (27, false))⟩,
    ⟨(some 29), (.bin .lss (.t 28) (.k (I 0))), (some (27, false))⟩,
    ⟨(some 30), (.pick (.t 27) (.k (B true)) (.t 29)), none⟩,
    ⟨(some 31), (.mv (.t 30)), none⟩,
    ⟨(some 32), (.mv (.t 1)), (some (31, false))⟩,
    ⟨(some 33), (.mv (.t 0)), (some (31, false))⟩,
    ⟨(some 34), (.bin .sub (.t 33) (.k (I 1))), (some (31, false))⟩,
    ⟨(some 35), (.bin .shl (.k (I 1)) (.t 34)), (some (31, false))⟩,
    ⟨(some 36), (.bin .geq (.t 32) (.t 35)), (some (31, false))⟩,
    ⟨(some 37), (.pick (.t 31) (.k (B true)) (.t 36)), none⟩])
  (.cond (.t 37)
    (.seq (.ops [⟨(some 38), (.mv (.t 5)), none⟩,
      ⟨(some 39), (.len (.t 38)), none⟩,
      ⟨(some 40), (.bin .eql (.t 39) (.k (I 0))), none⟩,
      ⟨(some 41), (.mv (.t 40)), none⟩,
      ⟨(some 42), (.mv (.t 7)), (some (41, true))⟩,
      ⟨(some 43), (.bin .eql (.t 42) (.k (I 0))), (some (41, true))⟩,
      ⟨(some 44), (.pick (.t 41) (.t 43) (.k (B false))), none⟩,
      ⟨(some 45), (.mv (.t 44)), none⟩,
      ⟨(some 46), (.mv (.t 6)), (some (45, true))⟩,
      ⟨(some 47), (.bin .eql (.t 46) (.k (I 2))), (some (45, true))⟩,
      ⟨(some 48), (.pick (.t 45) (.t 47) (.k (B false))), none⟩,
      ⟨(some 49), (.mv (.t 48)), none⟩,
      ⟨(some 50), (.mv (.t 8)), (some (49, true))⟩,
      ⟨(some 51), (.bin .eql (.t 50) (.k (I 2))), (some (49, true))⟩,
      ⟨(some 52), (.pick (.t 49) (.t 51) (.k (B false))), none⟩,
      ⟨(some 53), (.mv (.t 52)), none⟩,
      ⟨(some 54), (.call (.k (.fn (.func 18) [] [])) []), (some (53, true))⟩,
      ⟨(some 55), (.pick (.t 53) (.t 54) (.k (B false))), none⟩,
      ⟨(some 4), (.mv (.t 55)), none⟩])
    .ret)
    .skip))
  (.seq (.ops [⟨(some 56), (.mv (.t 5)), none⟩,
    ⟨(some 57), (.mv (.t 0)), none⟩,
    ⟨(some 58), (.mv (.t 1)), none⟩,
    ⟨(some 59), (.call (.k (.fn (.func 34) [] [])) [(.t 57), (.t 58)]), none⟩,
    ⟨(some 60), (.call (.k (.fn (.func 32) [] [])) [(.t 56), (.t 59)]), none⟩,
    ⟨(some 61), (.mv (.t 60)), none⟩,
    ⟨(some 62), (.mv (.t 7)), (some (61, true))⟩,
    ⟨(some 63), (.mv (.t 0)), (some (61, true))⟩,
    ⟨(some 64), (.mv (.t 1)), (some (61, true))⟩,
    ⟨(some 65), (.call (.k (.fn (.func 35) [] [])) [(.t 63), (.t 64)]), (some (61, true))⟩,
    ⟨(some 66), (.bin .eql (.t 62) (.t 65)), (some (61, true))⟩,
    ⟨(some 67), (.pick (.t 61) (.t 66) (.k (B false))), none⟩,
    ⟨(some 68), (.mv (.t 67)), none⟩,
    ⟨(some 69), (.mv (.t 6)), (some (68, true))⟩,
    ⟨(some 70), (.bin .eql (.t 69) (.k (I 0))), (some (68, true))⟩,
    ⟨(some 71), (.pick (.t 68) (.t 70) (.k (B false))), none⟩,
    ⟨(some 72), (.mv (.t 71)), none⟩,
    ⟨(some 73), (.mv (.t 8)), (some (72, true))⟩,
    ⟨(some 74), (.bin .eql (.t 73) (.k (I 0))), (some (72, true))⟩,
    ⟨(some 75), (.pick (.t 72) (.t 74) (.k (B false))), none⟩,
    ⟨(some 76), (.mv (.t 75)), none⟩,
    ⟨(some 77), (.call (.k (.fn (.func 18) [] [])) []), (some (76, true))⟩,
    ⟨(some 78), (.pick (.t 76) (.t 77) (.k (B false))), none⟩,
    ⟨(some 4), (.mv (.t 78)), none⟩])
  .ret)))))
theorem w8 {x : Cx} {Q : QT} {ks : List Kont} {fr : Fr} {H : AHeap} {ms : List Nat} : W x Q c8 ks fr H ms = W x Q (.seq (.ops [⟨(some 4), (.mv (.k (B false))), none⟩])
    (.seq (.ops [⟨(some 10), (.mv (.t 0)), none⟩,
      ⟨(some 11), (.mv (.t 1)), none⟩,
      ⟨(some 12), (.call (.k (.fn (.func 33) [] [])) [(.t 10), (.t 11)]), none⟩,
      ⟨(some 9), (.mv (.t 12)), none⟩,
      ⟨(some 13), (.ext (.t 9) 0), none⟩,
      ⟨(some 14), (.ext (.t 9) 1), none⟩,
      ⟨(some 5), (.mv (.t 13)), none⟩,
      ⟨(some 6), (.mv (.t 14)), none⟩])
    (.seq (.ops [⟨(some 16), (.mv (.t 0)), none⟩,
      ⟨(some 17), (.mv (.t 1)), none⟩,
      ⟨(some 18), (.call (.k (.fn (.func 26) [] [])) [(.t 16), (.t 17)]), none⟩,
      ⟨(some 15), (.mv (.t 18)), none⟩,
      ⟨(some 19), (.ext (.t 15) 0), none⟩,
      ⟨(some 20), (.ext (.t 15) 1), none⟩,
      ⟨(some 7), (.mv (.t 19)), none⟩,
      ⟨(some 8), (.mv (.t 20)), none⟩])
    (.seq (.seq (.ops [⟨(some 21), (.mv (.t 0)), none⟩,
      ⟨(some 22), (.bin .lss (.t 21) (.k (I 1))), none⟩,
      ⟨(some 23), (.mv (.t 22)), none⟩,
      ⟨(some 24), (.mv (.t 0)), (some (23, false))⟩,
      ⟨(some 25), (.bin .gtr (.t 24) (.k (I 7))), (some (23, false))⟩,
      ⟨(some 26), (.pick (.t 23) (.k (B true)) (.t 25)), none⟩,
      ⟨(some 27), (.mv (.t 26)), none⟩,
      ⟨(some 28), (.mv (.t 1)), (some (27, false))⟩,
      ⟨(some 29), (.bin .lss (.t 28) (.k (I 0))), (some (27, false))⟩,
      ⟨(some 30), (.pick (.t 27) (.k (B true)) (.t 29)), none⟩,
      ⟨(some 31), (.mv (.t 30)), none⟩,
      ⟨(some 32), (.mv (.t 1)), (some (31, false))⟩,
      ⟨(some 33), (.mv (.t 0)), (some (31, false))⟩,
      ⟨(some 34), (.bin .sub (.t 33) (.k (I 1))), (some (31, false))⟩,
      ⟨(some 35), (.bin .shl (.k (I 1)) (.t 34)), (some (31, false))⟩,
      ⟨(some 36), (.bin .geq (.t 32) (.t 35)), (some (31, false))⟩,
      ⟨(some 37), (.pick (.t 31) (.k (B true)) (.t 36)), none⟩])
    (.cond (.t 37)
      (.seq (.ops [⟨(some 38), (.mv (.t 5)), none⟩,
        ⟨(some 39), (.len (.t 38)), none⟩,
        ⟨(some 40), (.bin .eql (.t 39) (.k (I 0))), none⟩,
        ⟨(some 41), (.mv (.t 40)), none⟩,
        ⟨(some 42), (.mv (.t 7)), (some (41, true))⟩,
        ⟨(some 43), (.bin .eql (.t 42) (.k (I 0))), (some (41, true))⟩,
        ⟨(some 44), (.pick (.t 41) (.t 43) (.k (B false))), none⟩,
        ⟨(some 45), (.mv (.t 44)), none⟩,
        ⟨(some 46), (.mv (.t 6)), (some (45, true))⟩,
        ⟨(some 47), (.bin .eql (.t 46) (.k (I 2))), (some (45, true))⟩,
        ⟨(some 48), (.pick (.t 45) (.t 47) (.k (B false))), none⟩,
        ⟨(some 49), (.mv (.t 48)), none⟩,
        ⟨(some 50), (.mv (.t 8)), (some (49, true))⟩,
        ⟨(some 51), (.bin .eql (.t 50) (.k (I 2))), (some (49, true))⟩,
        ⟨(some 52), (.pick (.t 49) (.t 51) (.k (B false))), none⟩,
        ⟨(some 53), (.mv (.t 52)), none⟩,
        ⟨(some 54), (.call (.k (.fn (.func 18) [] [])) []), (some (53, true))⟩,
        ⟨(some 55), (.pick (.t 53) (.t 54) (.k (B false))), none⟩,
        ⟨(some 4), (.mv (.t 55)), none⟩])
      .ret)
      .skip))
    (.seq (.ops [⟨(some 56), (.mv (.t 5)), none⟩,
      ⟨(some 57), (.mv (.t 0)), none⟩,
      ⟨(some 58), (.mv (.t 1)), none⟩,
      ⟨(some 59), (.call (.k (.fn (.func 34) [] [])) [(.t 57), (.t 58)]), none⟩,
      ⟨(some 60), (.call (.k (.fn (.func 32) [] [])) [(.t 56), (.t 59)]), none⟩,
      ⟨(some 61), (.mv (.t 60)), none⟩,
      ⟨(some 62), (.mv (.t 7)), (some (61, true))⟩,
      ⟨(some 63), (.mv (.t 0)), (some (61, true))⟩,
      ⟨(some 64), (.mv (.t 1)), (some (61, true))⟩,
      ⟨(some 65), (.call (.k (.fn (.func 35) [] [])) [(.t 63), (.t 64)]), (some (61, true))⟩,
      ⟨(some 66), (.bin .eql (.t 62) (.t 65)), (some (61, true))⟩,
      ⟨(some 67), (.pick (.t 61) (.t 66) (.k (B false))), none⟩,
      ⟨(some 68), (.mv (.t 67)), none⟩,
      ⟨(some 69), (.mv (.t 6)), (some (68, true))⟩,
      ⟨(some 70), (.bin .eql (.t 69) (.k (I 0))), (some (68, true))⟩,
      ⟨(some 71), (.pick (.t 68) (.t 70) (.k (B false))), none⟩,
      ⟨(some 72), (.mv (.t 71)), none⟩,
      ⟨(some 73), (.mv (.t 8)), (some (72, true))⟩,
      ⟨(some 74), (.bin .eql (.t 73) (.k (I 0))), (some (72, true))⟩,
      ⟨(some 75), (.pick (.t 72) (.t 74) (.k (B false))), none⟩,
      ⟨(some 76), (.mv (.t 75)), none⟩,
      ⟨(some 77), (.call (.k (.fn (.func 18) [] [])) []), (some (76, true))⟩,
      ⟨(some 78), (.pick (.t 76) (.t 77) (.k (B false))), none⟩,
      ⟨(some 4), (.mv (.t 78)), none⟩])
    .ret))))) ks fr H ms := rfl
def r8 : List IRes := [(.tmp 4)]
theorem t8 : Try.f8.body.bind (trCode Try.prog Try.f8.ntmps) = some (strip c8) := by kernel_rfl
theorem q8 : trRes Try.prog Try.f8.results.toList = some r8 := by kernel_rfl
theorem fn8 : Try.prog.funcs[8]? = some Try.f8 := by kernel_rfl
theorem nn8 : (Try.f8.name == "runtime.NumGoroutine") = false := by kernel_rfl
theorem nt8 : Try.f8.ntmps = 79 := by kernel_rfl
end Go.Proofs.Ythdjloegibenoaa
