/- The code of some functions of the program, cleaned: printed by a program of mine, checked here. -/
import Derived.Test.YthdjloegibenoaaProg
import Derived.Test.YthdjloegibenoaaAN
import Derived.KernelRfl
namespace Go.Proofs.Ythdjloegibenoaa
open Go.Abs AVal
theorem mixed : Try.prog.follows .mixedOrders = true := by kernel_rfl
def c16 : ICode :=
  (.seq (.ops [⟨(some 2), (.mv (.k nilSl)), none⟩])
  (.seq (.ops [⟨(some 3), (.mv (.t 0)), none⟩,
    ⟨(some 4), (.mv (.t 0)), none⟩,
    ⟨(some 5), (.len (.t 4)), none⟩,
    ⟨(some 6), (.mn (.t 5) (.k (I 11))), none⟩,
    ⟨(some 7), (.slS 1 (.t 3) none (some (.t 6)) none), none⟩,
    ⟨(some 8), (.call (.k (.fn (.func 44) [] [])) [(.t 7)]), none⟩,
    ⟨(some 2), (.mv (.t 8)), none⟩])
  .ret))
theorem w16 {x : Cx} {Q : QT} {ks : List Kont} {fr : Fr} {H : AHeap} {ms : List Nat} : W x Q c16 ks fr H ms = W x Q (.seq (.ops [⟨(some 2), (.mv (.k nilSl)), none⟩])
    (.seq (.ops [⟨(some 3), (.mv (.t 0)), none⟩,
      ⟨(some 4), (.mv (.t 0)), none⟩,
      ⟨(some 5), (.len (.t 4)), none⟩,
      ⟨(some 6), (.mn (.t 5) (.k (I 11))), none⟩,
      ⟨(some 7), (.slS 1 (.t 3) none (some (.t 6)) none), none⟩,
      ⟨(some 8), (.call (.k (.fn (.func 44) [] [])) [(.t 7)]), none⟩,
      ⟨(some 2), (.mv (.t 8)), none⟩])
    .ret)) ks fr H ms := rfl
def r16 : List IRes := [(.tmp 2)]
theorem t16 : Try.f16.body.bind (trCode Try.prog Try.f16.ntmps) = some (strip c16) := by kernel_rfl
theorem q16 : trRes Try.prog Try.f16.results.toList = some r16 := by kernel_rfl
theorem fn16 : Try.prog.funcs[16]? = some Try.f16 := by kernel_rfl
theorem nn16 : (Try.f16.name == "runtime.NumGoroutine") = false := by kernel_rfl
theorem nt16 : Try.f16.ntmps = 9 := by kernel_rfl
def c17 : ICode :=
  (.seq (.ops [⟨(some 2), (.mv (.k (B false))), none⟩])
  (.seq (.ops [⟨(some 3), (.mv (.t 0)), none⟩,
    ⟨(some 4), (.call (.k (.fn (.func 23) [] [])) [(.t 3), (.k (I 7))]), none⟩,
    ⟨(some 2), (.mv (.t 4)), none⟩])
  .ret))
theorem w17 {x : Cx} {Q : QT} {ks : List Kont} {fr : Fr} {H : AHeap} {ms : List Nat} : W x Q c17 ks fr H ms = W x Q (.seq (.ops [⟨(some 2), (.mv (.k (B false))), none⟩])
    (.seq (.ops [⟨(some 3), (.mv (.t 0)), none⟩,
      ⟨(some 4), (.call (.k (.fn (.func 23) [] [])) [(.t 3), (.k (I 7))]), none⟩,
      ⟨(some 2), (.mv (.t 4)), none⟩])
    .ret)) ks fr H ms := rfl
def r17 : List IRes := [(.tmp 2)]
theorem t17 : Try.f17.body.bind (trCode Try.prog Try.f17.ntmps) = some (strip c17) := by kernel_rfl
theorem q17 : trRes Try.prog Try.f17.results.toList = some r17 := by kernel_rfl
theorem fn17 : Try.prog.funcs[17]? = some Try.f17 := by kernel_rfl
theorem nn17 : (Try.f17.name == "runtime.NumGoroutine") = false := by kernel_rfl
theorem nt17 : Try.f17.ntmps = 5 := by kernel_rfl
def c23T1 : ICode :=
  (.keep [0, 1] (.seq (.ops [⟨(some 38), (.mv (.t 0)), none⟩,
    ⟨(some 39), (.len (.t 38)), none⟩,
    ⟨(some 40), (.bin .geq (.t 39) (.k (I 1))), none⟩,
    ⟨(some 41), (.mv (.t 40)), none⟩,
    ⟨(some 42), (.mv (.t 0)), (some (41, true))⟩,
    ⟨(some 43), (.len (.t 42)), (some (41, true))⟩,
    ⟨(some 44), (.mv (.t 1)), (some (41, true))⟩,
    ⟨(some 45), (.bin .leq (.t 43) (.t 44)), (some (41, true))⟩,
    ⟨(some 46), (.pick (.t 41) (.t 45) (.k (B false))), none⟩,
    ⟨(some 4), (.mv (.t 46)), none⟩])
  .ret))
theorem w23T1 {x : Cx} {Q : QT} {ks : List Kont} {fr : Fr} {H : AHeap} {ms : List Nat} : W x Q c23T1 ks fr H ms = W x Q (.keep [0, 1] (.seq (.ops [⟨(some 38), (.mv (.t 0)), none⟩,
      ⟨(some 39), (.len (.t 38)), none⟩,
      ⟨(some 40), (.bin .geq (.t 39) (.k (I 1))), none⟩,
      ⟨(some 41), (.mv (.t 40)), none⟩,
      ⟨(some 42), (.mv (.t 0)), (some (41, true))⟩,
      ⟨(some 43), (.len (.t 42)), (some (41, true))⟩,
      ⟨(some 44), (.mv (.t 1)), (some (41, true))⟩,
      ⟨(some 45), (.bin .leq (.t 43) (.t 44)), (some (41, true))⟩,
      ⟨(some 46), (.pick (.t 41) (.t 45) (.k (B false))), none⟩,
      ⟨(some 4), (.mv (.t 46)), none⟩])
    .ret)) ks fr H ms := rfl
/- live: [0, 1, 5, 8, 9, 10] -/
def c23L0 : ICode :=
  (.seq (.ops [⟨(some 11), (.bin .lss (.t 10) (.t 9)), none⟩])
  (.seq (.cond (.t 11)
    .skip
    (.exit 0))
  (.seq (.block 1 (.seq (.ops [⟨(some 12), (.ixS 1 (.t 8) (.t 10)), none⟩,
    ⟨(some 13), (.load false 1 (.t 12)), none⟩,
    ⟨(some 7), (.mv (.t 13)), none⟩])
  (.seq (.seq (.ops [⟨(some 14), (.mv (.t 7)), none⟩,
    ⟨(some 15), (.bin .lss (.t 14) (.k (I 0))), none⟩,
    ⟨(some 16), (.mv (.t 15)), none⟩,
    ⟨(some 17), (.mv (.t 7)), (some (16, false))⟩,
    ⟨(some 18), (.mv (.t 0)), (some (16, false))⟩,
    ⟨(some 19), (.len (.t 18)), (some (16, false))⟩,
    ⟨(some 20), (.bin .geq (.t 17) (.t 19)), (some (16, false))⟩,
    ⟨(some 21), (.pick (.t 16) (.k (B true)) (.t 20)), none⟩,
    ⟨(some 22), (.mv (.t 21)), none⟩,
    ⟨(some 23), (.mv (.t 7)), (some (22, false))⟩,
    ⟨(some 24), (.bin .gtr (.t 23) (.k (I 60))), (some (22, false))⟩,
    ⟨(some 25), (.pick (.t 22) (.k (B true)) (.t 24)), none⟩,
    ⟨(some 26), (.mv (.t 25)), none⟩,
    ⟨(some 27), (.mv (.t 5)), (some (26, false))⟩,
    ⟨(some 28), (.mv (.t 7)), (some (26, false))⟩,
    ⟨(some 29), (.bin .shr (.t 27) (.t 28)), (some (26, false))⟩,
    ⟨(some 30), (.bin .and (.t 29) (.k (I 1))), (some (26, false))⟩,
    ⟨(some 31), (.bin .eql (.t 30) (.k (I 1))), (some (26, false))⟩,
    ⟨(some 32), (.pick (.t 26) (.k (B true)) (.t 31)), none⟩])
  (.cond (.t 32)
    (.seq (.ops [⟨(some 4), (.mv (.k (B false))), none⟩])
    .ret)
    .skip))
  (.ops [⟨(some 33), (.mv (.t 5)), none⟩,
    ⟨(some 34), (.mv (.t 7)), none⟩,
    ⟨(some 35), (.bin .shl (.k (I 1)) (.t 34)), none⟩,
    ⟨(some 36), (.bin .or (.t 33) (.t 35)), none⟩,
    ⟨(some 5), (.mv (.t 36)), none⟩]))))
  (.ops [⟨(some 37), (.bin .add (.t 10) (.k (I 1))), none⟩,
    ⟨(some 10), (.mv (.t 37)), none⟩]))))
theorem w23L0 {x : Cx} {Q : QT} {ks : List Kont} {fr : Fr} {H : AHeap} {ms : List Nat} : W x Q c23L0 ks fr H ms = W x Q (.seq (.ops [⟨(some 11), (.bin .lss (.t 10) (.t 9)), none⟩])
    (.seq (.cond (.t 11)
      .skip
      (.exit 0))
    (.seq (.block 1 (.seq (.ops [⟨(some 12), (.ixS 1 (.t 8) (.t 10)), none⟩,
      ⟨(some 13), (.load false 1 (.t 12)), none⟩,
      ⟨(some 7), (.mv (.t 13)), none⟩])
    (.seq (.seq (.ops [⟨(some 14), (.mv (.t 7)), none⟩,
      ⟨(some 15), (.bin .lss (.t 14) (.k (I 0))), none⟩,
      ⟨(some 16), (.mv (.t 15)), none⟩,
      ⟨(some 17), (.mv (.t 7)), (some (16, false))⟩,
      ⟨(some 18), (.mv (.t 0)), (some (16, false))⟩,
      ⟨(some 19), (.len (.t 18)), (some (16, false))⟩,
      ⟨(some 20), (.bin .geq (.t 17) (.t 19)), (some (16, false))⟩,
      ⟨(some 21), (.pick (.t 16) (.k (B true)) (.t 20)), none⟩,
      ⟨(some 22), (.mv (.t 21)), none⟩,
      ⟨(some 23), (.mv (.t 7)), (some (22, false))⟩,
      ⟨(some 24), (.bin .gtr (.t 23) (.k (I 60))), (some (22, false))⟩,
      ⟨(some 25), (.pick (.t 22) (.k (B true)) (.t 24)), none⟩,
      ⟨(some 26), (.mv (.t 25)), none⟩,
      ⟨(some 27), (.mv (.t 5)), (some (26, false))⟩,
      ⟨(some 28), (.mv (.t 7)), (some (26, false))⟩,
      ⟨(some 29), (.bin .shr (.t 27) (.t 28)), (some (26, false))⟩,
      ⟨(some 30), (.bin .and (.t 29) (.k (I 1))), (some (26, false))⟩,
      ⟨(some 31), (.bin .eql (.t 30) (.k (I 1))), (some (26, false))⟩,
      ⟨(some 32), (.pick (.t 26) (.k (B true)) (.t 31)), none⟩])
    (.cond (.t 32)
      (.seq (.ops [⟨(some 4), (.mv (.k (B false))), none⟩])
      .ret)
      .skip))
    (.ops [⟨(some 33), (.mv (.t 5)), none⟩,
      ⟨(some 34), (.mv (.t 7)), none⟩,
      ⟨(some 35), (.bin .shl (.k (I 1)) (.t 34)), none⟩,
      ⟨(some 36), (.bin .or (.t 33) (.t 35)), none⟩,
      ⟨(some 5), (.mv (.t 36)), none⟩]))))
    (.ops [⟨(some 37), (.bin .add (.t 10) (.k (I 1))), none⟩,
      ⟨(some 10), (.mv (.t 37)), none⟩])))) ks fr H ms := rfl
def c23 : ICode :=
  (.seq (.ops [⟨(some 4), (.mv (.k (B false))), none⟩])
  (.seq (.ops [⟨(some 5), (.mv (.k (I 0))), none⟩])
  (.seq (.seq (.ops [⟨(some 8), (.mv (.t 0)), none⟩,
    ⟨(some 9), (.len (.t 8)), none⟩,
    ⟨(some 10), (.mv (.k (I 0))), none⟩])
  (.block 0 (.loop c23L0)))
  c23T1)))
theorem w23 {x : Cx} {Q : QT} {ks : List Kont} {fr : Fr} {H : AHeap} {ms : List Nat} : W x Q c23 ks fr H ms = W x Q (.seq (.ops [⟨(some 4), (.mv (.k (B false))), none⟩])
    (.seq (.ops [⟨(some 5), (.mv (.k (I 0))), none⟩])
    (.seq (.seq (.ops [⟨(some 8), (.mv (.t 0)), none⟩,
      ⟨(some 9), (.len (.t 8)), none⟩,
      ⟨(some 10), (.mv (.k (I 0))), none⟩])
    (.block 0 (.loop c23L0)))
    c23T1))) ks fr H ms := rfl
def r23 : List IRes := [(.tmp 4)]
theorem t23 : Try.f23.body.bind (trCode Try.prog Try.f23.ntmps) = some (strip c23) := by kernel_rfl
theorem q23 : trRes Try.prog Try.f23.results.toList = some r23 := by kernel_rfl
theorem fn23 : Try.prog.funcs[23]? = some Try.f23 := by kernel_rfl
theorem nn23 : (Try.f23.name == "runtime.NumGoroutine") = false := by kernel_rfl
theorem nt23 : Try.f23.ntmps = 47 := by kernel_rfl
def c44 : ICode :=
  (.seq (.ops [⟨(some 2), (.mv (.k nilSl)), none⟩])
  (.seq (.seq (.ops [⟨(some 3), (.mv (.t 0)), none⟩,
    ⟨(some 4), (.eqnil false (.t 3)), none⟩])
  (.cond (.t 4)
    (.seq (.ops [⟨(some 2), (.mv (.k nilSl)), none⟩])
    .ret)
    .skip))
  (.seq (.ops [⟨(some 5), (.bslice 1 0 [(I 0)] []), none⟩,
    ⟨(some 6), (.mv (.t 0)), none⟩,
    ⟨(some 7), (.append 1 8 (.t 5) (.t 6)), none⟩,
    ⟨(some 2), (.mv (.t 7)), none⟩])
  .ret)))
theorem w44 {x : Cx} {Q : QT} {ks : List Kont} {fr : Fr} {H : AHeap} {ms : List Nat} : W x Q c44 ks fr H ms = W x Q (.seq (.ops [⟨(some 2), (.mv (.k nilSl)), none⟩])
    (.seq (.seq (.ops [⟨(some 3), (.mv (.t 0)), none⟩,
      ⟨(some 4), (.eqnil false (.t 3)), none⟩])
    (.cond (.t 4)
      (.seq (.ops [⟨(some 2), (.mv (.k nilSl)), none⟩])
      .ret)
      .skip))
    (.seq (.ops [⟨(some 5), (.bslice 1 0 [(I 0)] []), none⟩,
      ⟨(some 6), (.mv (.t 0)), none⟩,
      ⟨(some 7), (.append 1 8 (.t 5) (.t 6)), none⟩,
      ⟨(some 2), (.mv (.t 7)), none⟩])
    .ret))) ks fr H ms := rfl
def r44 : List IRes := [(.tmp 2)]
theorem t44 : Try.f44.body.bind (trCode Try.prog Try.f44.ntmps) = some (strip c44) := by kernel_rfl
theorem q44 : trRes Try.prog Try.f44.results.toList = some r44 := by kernel_rfl
theorem fn44 : Try.prog.funcs[44]? = some Try.f44 := by kernel_rfl
theorem nn44 : (Try.f44.name == "runtime.NumGoroutine") = false := by kernel_rfl
theorem nt44 : Try.f44.ntmps = 8 := by kernel_rfl
def c48 : ICode :=
  (.seq (.ops [⟨(some 2), (.mv (.k (B false))), none⟩])
  (.seq (.ops [⟨(some 3), (.mv (.t 0)), none⟩,
    ⟨(some 4), (.len (.t 3)), none⟩,
    ⟨(some 5), (.bin .geq (.t 4) (.k (I 1))), none⟩,
    ⟨(some 6), (.mv (.t 5)), none⟩,
    ⟨(some 7), (.mv (.t 0)), (some (6, true))⟩,
    ⟨(some 8), (.len (.t 7)), (some (6, true))⟩,
    ⟨(some 9), (.bin .leq (.t 8) (.k (I 7))), (some (6, true))⟩,
    ⟨(some 10), (.pick (.t 6) (.t 9) (.k (B false))), none⟩,
    ⟨(some 11), (.mv (.t 10)), none⟩,
    ⟨(some 12), (.mv (.t 0)), (some (11, true))⟩,
    ⟨(some 13), (.mv (.t 0)), (some (11, true))⟩,
    ⟨(some 14), (.len (.t 13)), (some (11, true))⟩,
    ⟨(some 15), (.call (.k (.fn (.func 55) [] [])) [(.t 12), (.t 14)]), (some (11, true))⟩,
    ⟨(some 16), (.pick (.t 11) (.t 15) (.k (B false))), none⟩,
    ⟨(some 2), (.mv (.t 16)), none⟩])
  .ret))
theorem w48 {x : Cx} {Q : QT} {ks : List Kont} {fr : Fr} {H : AHeap} {ms : List Nat} : W x Q c48 ks fr H ms = W x Q (.seq (.ops [⟨(some 2), (.mv (.k (B false))), none⟩])
    (.seq (.ops [⟨(some 3), (.mv (.t 0)), none⟩,
      ⟨(some 4), (.len (.t 3)), none⟩,
      ⟨(some 5), (.bin .geq (.t 4) (.k (I 1))), none⟩,
      ⟨(some 6), (.mv (.t 5)), none⟩,
      ⟨(some 7), (.mv (.t 0)), (some (6, true))⟩,
      ⟨(some 8), (.len (.t 7)), (some (6, true))⟩,
      ⟨(some 9), (.bin .leq (.t 8) (.k (I 7))), (some (6, true))⟩,
      ⟨(some 10), (.pick (.t 6) (.t 9) (.k (B false))), none⟩,
      ⟨(some 11), (.mv (.t 10)), none⟩,
      ⟨(some 12), (.mv (.t 0)), (some (11, true))⟩,
      ⟨(some 13), (.mv (.t 0)), (some (11, true))⟩,
      ⟨(some 14), (.len (.t 13)), (some (11, true))⟩,
      ⟨(some 15), (.call (.k (.fn (.func 55) [] [])) [(.t 12), (.t 14)]), (some (11, true))⟩,
      ⟨(some 16), (.pick (.t 11) (.t 15) (.k (B false))), none⟩,
      ⟨(some 2), (.mv (.t 16)), none⟩])
    .ret)) ks fr H ms := rfl
def r48 : List IRes := [(.tmp 2)]
theorem t48 : Try.f48.body.bind (trCode Try.prog Try.f48.ntmps) = some (strip c48) := by kernel_rfl
theorem q48 : trRes Try.prog Try.f48.results.toList = some r48 := by kernel_rfl
theorem fn48 : Try.prog.funcs[48]? = some Try.f48 := by kernel_rfl
theorem nn48 : (Try.f48.name == "runtime.NumGoroutine") = false := by kernel_rfl
theorem nt48 : Try.f48.ntmps = 17 := by kernel_rfl
def c49 : ICode :=
  (.seq (.ops [⟨(some 4), (.mv (.k (B false))), none⟩])
  (.seq (.ops [⟨(some 8), (.mv (.t 0)), none⟩,
    ⟨(some 9), (.call (.k (.fn (.func 51) [] [])) [(.t 8)]), none⟩,
    ⟨(some 10), (.mv (.t 1)), none⟩,
    ⟨(some 11), (.call (.k (.fn (.func 52) [] [])) [(.t 9), (.t 10)]), none⟩,
    ⟨(some 7), (.mv (.t 11)), none⟩,
    ⟨(some 12), (.ext (.t 7) 0), none⟩,
    ⟨(some 13), (.ext (.t 7) 1), none⟩,
    ⟨(some 5), (.alloc [(I 0), (I 0)]), none⟩,
    ⟨none, (.store 2 (.t 5) (.t 12)), none⟩,
    ⟨(some 6), (.mv (.t 13)), none⟩])
  (.seq (.ops [⟨(some 14), (.mv (.t 6)), none⟩,
    ⟨(some 15), (.un .not (.t 14)), none⟩,
    ⟨(some 4), (.mv (.t 15)), none⟩])
  .ret)))
theorem w49 {x : Cx} {Q : QT} {ks : List Kont} {fr : Fr} {H : AHeap} {ms : List Nat} : W x Q c49 ks fr H ms = W x Q (.seq (.ops [⟨(some 4), (.mv (.k (B false))), none⟩])
    (.seq (.ops [⟨(some 8), (.mv (.t 0)), none⟩,
      ⟨(some 9), (.call (.k (.fn (.func 51) [] [])) [(.t 8)]), none⟩,
      ⟨(some 10), (.mv (.t 1)), none⟩,
      ⟨(some 11), (.call (.k (.fn (.func 52) [] [])) [(.t 9), (.t 10)]), none⟩,
      ⟨(some 7), (.mv (.t 11)), none⟩,
      ⟨(some 12), (.ext (.t 7) 0), none⟩,
      ⟨(some 13), (.ext (.t 7) 1), none⟩,
      ⟨(some 5), (.alloc [(I 0), (I 0)]), none⟩,
      ⟨none, (.store 2 (.t 5) (.t 12)), none⟩,
      ⟨(some 6), (.mv (.t 13)), none⟩])
    (.seq (.ops [⟨(some 14), (.mv (.t 6)), none⟩,
      ⟨(some 15), (.un .not (.t 14)), none⟩,
      ⟨(some 4), (.mv (.t 15)), none⟩])
    .ret))) ks fr H ms := rfl
def r49 : List IRes := [(.tmp 4)]
theorem t49 : Try.f49.body.bind (trCode Try.prog Try.f49.ntmps) = some (strip c49) := by kernel_rfl
theorem q49 : trRes Try.prog Try.f49.results.toList = some r49 := by kernel_rfl
theorem fn49 : Try.prog.funcs[49]? = some Try.f49 := by kernel_rfl
theorem nn49 : (Try.f49.name == "runtime.NumGoroutine") = false := by kernel_rfl
theorem nt49 : Try.f49.ntmps = 16 := by kernel_rfl
def c50T1 : ICode :=
  (.keep [3] (.seq (.ops [⟨(some 20), (.mv (.t 3)), none⟩,
    ⟨(some 2), (.mv (.t 20)), none⟩])
  .ret))
theorem w50T1 {x : Cx} {Q : QT} {ks : List Kont} {fr : Fr} {H : AHeap} {ms : List Nat} : W x Q c50T1 ks fr H ms = W x Q (.keep [3] (.seq (.ops [⟨(some 20), (.mv (.t 3)), none⟩,
      ⟨(some 2), (.mv (.t 20)), none⟩])
    .ret)) ks fr H ms := rfl
/- live: [3, 6, 7] -/
def c50L0 : ICode :=
  (.seq (.ops [⟨(some 8), (.bin .lss (.t 7) (.t 6)), none⟩])
  (.seq (.cond (.t 8)
    .skip
    (.exit 0))
  (.seq (.block 1 (.seq (.ops [⟨(some 9), (.mv (.t 7)), none⟩,
    ⟨(some 4), (.mv (.t 9)), none⟩])
  (.ops [⟨(some 10), (.mv (.t 3)), none⟩,
    ⟨(some 11), (.mv (.t 4)), none⟩,
    ⟨(some 12), (.mv (.t 4)), none⟩,
    ⟨(some 13), (.bin .add (.t 12) (.k (I 1))), none⟩,
    ⟨(some 14), (.mv (.t 4)), none⟩,
    ⟨(some 15), (.bin .rem (.t 14) (.k (I 2))), none⟩,
    ⟨(some 16), (.build [(I 0), (I 0), (I 0)] [(0, 1, (.t 11)), (1, 1, (.t 13)), (2, 1, (.t 15))]), none⟩,
    ⟨(some 17), (.bslice 3 1 [(I 0), (I 0), (I 0)] [(0, 3, (.t 16))]), none⟩,
    ⟨(some 18), (.append 3 24 (.t 10) (.t 17)), none⟩,
    ⟨(some 3), (.mv (.t 18)), none⟩])))
  (.ops [⟨(some 19), (.bin .add (.t 7) (.k (I 1))), none⟩,
    ⟨(some 7), (.mv (.t 19)), none⟩]))))
theorem w50L0 {x : Cx} {Q : QT} {ks : List Kont} {fr : Fr} {H : AHeap} {ms : List Nat} : W x Q c50L0 ks fr H ms = W x Q (.seq (.ops [⟨(some 8), (.bin .lss (.t 7) (.t 6)), none⟩])
    (.seq (.cond (.t 8)
      .skip
      (.exit 0))
    (.seq (.block 1 (.seq (.ops [⟨(some 9), (.mv (.t 7)), none⟩,
      ⟨(some 4), (.mv (.t 9)), none⟩])
    (.ops [⟨(some 10), (.mv (.t 3)), none⟩,
      ⟨(some 11), (.mv (.t 4)), none⟩,
      ⟨(some 12), (.mv (.t 4)), none⟩,
      ⟨(some 13), (.bin .add (.t 12) (.k (I 1))), none⟩,
      ⟨(some 14), (.mv (.t 4)), none⟩,
      ⟨(some 15), (.bin .rem (.t 14) (.k (I 2))), none⟩,
      ⟨(some 16), (.build [(I 0), (I 0), (I 0)] [(0, 1, (.t 11)), (1, 1, (.t 13)), (2, 1, (.t 15))]), none⟩,
      ⟨(some 17), (.bslice 3 1 [(I 0), (I 0), (I 0)] [(0, 3, (.t 16))]), none⟩,
      ⟨(some 18), (.append 3 24 (.t 10) (.t 17)), none⟩,
      ⟨(some 3), (.mv (.t 18)), none⟩])))
    (.ops [⟨(some 19), (.bin .add (.t 7) (.k (I 1))), none⟩,
      ⟨(some 7), (.mv (.t 19)), none⟩])))) ks fr H ms := rfl
def c50 : ICode :=
  (.seq (.ops [⟨(some 2), (.mv (.k nilSl)), none⟩])
  (.seq (.ops [⟨(some 3), (.mv (.k nilSl)), none⟩])
  (.seq (.seq (.ops [⟨(some 5), (.mv (.t 0)), none⟩,
    ⟨(some 6), (.bin .sub (.t 5) (.k (I 1))), none⟩,
    ⟨(some 7), (.mv (.k (I 0))), none⟩])
  (.block 0 (.loop c50L0)))
  c50T1)))
theorem w50 {x : Cx} {Q : QT} {ks : List Kont} {fr : Fr} {H : AHeap} {ms : List Nat} : W x Q c50 ks fr H ms = W x Q (.seq (.ops [⟨(some 2), (.mv (.k nilSl)), none⟩])
    (.seq (.ops [⟨(some 3), (.mv (.k nilSl)), none⟩])
    (.seq (.seq (.ops [⟨(some 5), (.mv (.t 0)), none⟩,
      ⟨(some 6), (.bin .sub (.t 5) (.k (I 1))), none⟩,
      ⟨(some 7), (.mv (.k (I 0))), none⟩])
    (.block 0 (.loop c50L0)))
    c50T1))) ks fr H ms := rfl
def r50 : List IRes := [(.tmp 2)]
theorem t50 : Try.f50.body.bind (trCode Try.prog Try.f50.ntmps) = some (strip c50) := by kernel_rfl
theorem q50 : trRes Try.prog Try.f50.results.toList = some r50 := by kernel_rfl
theorem fn50 : Try.prog.funcs[50]? = some Try.f50 := by kernel_rfl
theorem nn50 : (Try.f50.name == "runtime.NumGoroutine") = false := by kernel_rfl
theorem nt50 : Try.f50.ntmps = 21 := by kernel_rfl
def c51T1 : ICode :=
  (.keep [3] (.seq (.ops [⟨(some 21), (.mv (.t 3)), none⟩,
    ⟨(some 2), (.mv (.t 21)), none⟩])
  .ret))
theorem w51T1 {x : Cx} {Q : QT} {ks : List Kont} {fr : Fr} {H : AHeap} {ms : List Nat} : W x Q c51T1 ks fr H ms = W x Q (.keep [3] (.seq (.ops [⟨(some 21), (.mv (.t 3)), none⟩,
      ⟨(some 2), (.mv (.t 21)), none⟩])
    .ret)) ks fr H ms := rfl
/- live: [3, 9, 10, 11] -/
def c51L0 : ICode :=
  (.seq (.ops [⟨(some 12), (.bin .lss (.t 11) (.t 10)), none⟩])
  (.seq (.cond (.t 12)
    .skip
    (.exit 0))
  (.seq (.block 1 (.seq (.ops [⟨(some 13), (.mv (.t 11)), none⟩,
    ⟨(some 14), (.ixS 1 (.t 9) (.t 11)), none⟩,
    ⟨(some 15), (.load false 1 (.t 14)), none⟩,
    ⟨(some 4), (.mv (.t 13)), none⟩,
    ⟨(some 5), (.mv (.t 15)), none⟩])
  (.ops [⟨(some 16), (.mv (.t 3)), none⟩,
    ⟨(some 17), (.mv (.t 5)), none⟩,
    ⟨(some 18), (.mv (.t 4)), none⟩,
    ⟨(some 19), (.ixS 1 (.t 16) (.t 17)), none⟩,
    ⟨none, (.store 1 (.t 19) (.t 18)), none⟩])))
  (.ops [⟨(some 20), (.bin .add (.t 11) (.k (I 1))), none⟩,
    ⟨(some 11), (.mv (.t 20)), none⟩]))))
theorem w51L0 {x : Cx} {Q : QT} {ks : List Kont} {fr : Fr} {H : AHeap} {ms : List Nat} : W x Q c51L0 ks fr H ms = W x Q (.seq (.ops [⟨(some 12), (.bin .lss (.t 11) (.t 10)), none⟩])
    (.seq (.cond (.t 12)
      .skip
      (.exit 0))
    (.seq (.block 1 (.seq (.ops [⟨(some 13), (.mv (.t 11)), none⟩,
      ⟨(some 14), (.ixS 1 (.t 9) (.t 11)), none⟩,
      ⟨(some 15), (.load false 1 (.t 14)), none⟩,
      ⟨(some 4), (.mv (.t 13)), none⟩,
      ⟨(some 5), (.mv (.t 15)), none⟩])
    (.ops [⟨(some 16), (.mv (.t 3)), none⟩,
      ⟨(some 17), (.mv (.t 5)), none⟩,
      ⟨(some 18), (.mv (.t 4)), none⟩,
      ⟨(some 19), (.ixS 1 (.t 16) (.t 17)), none⟩,
      ⟨none, (.store 1 (.t 19) (.t 18)), none⟩])))
    (.ops [⟨(some 20), (.bin .add (.t 11) (.k (I 1))), none⟩,
      ⟨(some 11), (.mv (.t 20)), none⟩])))) ks fr H ms := rfl
def c51 : ICode :=
  (.seq (.ops [⟨(some 2), (.mv (.k nilSl)), none⟩])
  (.seq (.ops [⟨(some 6), (.mv (.t 0)), none⟩,
    ⟨(some 7), (.len (.t 6)), none⟩,
    ⟨(some 8), (.mksl 1 8 [(I 0)] (.t 7) (.t 7)), none⟩,
    ⟨(some 3), (.mv (.t 8)), none⟩])
  (.seq (.seq (.ops [⟨(some 9), (.mv (.t 0)), none⟩,
    ⟨(some 10), (.len (.t 9)), none⟩,
    ⟨(some 11), (.mv (.k (I 0))), none⟩])
  (.block 0 (.loop c51L0)))
  c51T1)))
theorem w51 {x : Cx} {Q : QT} {ks : List Kont} {fr : Fr} {H : AHeap} {ms : List Nat} : W x Q c51 ks fr H ms = W x Q (.seq (.ops [⟨(some 2), (.mv (.k nilSl)), none⟩])
    (.seq (.ops [⟨(some 6), (.mv (.t 0)), none⟩,
      ⟨(some 7), (.len (.t 6)), none⟩,
      ⟨(some 8), (.mksl 1 8 [(I 0)] (.t 7) (.t 7)), none⟩,
      ⟨(some 3), (.mv (.t 8)), none⟩])
    (.seq (.seq (.ops [⟨(some 9), (.mv (.t 0)), none⟩,
      ⟨(some 10), (.len (.t 9)), none⟩,
      ⟨(some 11), (.mv (.k (I 0))), none⟩])
    (.block 0 (.loop c51L0)))
    c51T1))) ks fr H ms := rfl
def r51 : List IRes := [(.tmp 2)]
theorem t51 : Try.f51.body.bind (trCode Try.prog Try.f51.ntmps) = some (strip c51) := by kernel_rfl
theorem q51 : trRes Try.prog Try.f51.results.toList = some r51 := by kernel_rfl
theorem fn51 : Try.prog.funcs[51]? = some Try.f51 := by kernel_rfl
theorem nn51 : (Try.f51.name == "runtime.NumGoroutine") = false := by kernel_rfl
theorem nt51 : Try.f51.ntmps = 22 := by kernel_rfl
def c52T3 : ICode :=
  (.keep [4] (.seq (.ops [⟨(some 35), (.build [(I 0), (I 0)] []), none⟩,
    ⟨none, (.store 2 (.t 4) (.t 35)), none⟩,
    ⟨(some 5), (.mv (.k (B false))), none⟩])
  .ret))
theorem w52T3 {x : Cx} {Q : QT} {ks : List Kont} {fr : Fr} {H : AHeap} {ms : List Nat} : W x Q c52T3 ks fr H ms = W x Q (.keep [4] (.seq (.ops [⟨(some 35), (.build [(I 0), (I 0)] []), none⟩,
      ⟨none, (.store 2 (.t 4) (.t 35)), none⟩,
      ⟨(some 5), (.mv (.k (B false))), none⟩])
    .ret)) ks fr H ms := rfl
def c52T2 : ICode :=
  (.keep [0, 1, 4, 9, 10, 11] (.ops [⟨(some 34), (.bin .add (.t 11) (.k (I 1))), none⟩,
    ⟨(some 11), (.mv (.t 34)), none⟩]))
theorem w52T2 {x : Cx} {Q : QT} {ks : List Kont} {fr : Fr} {H : AHeap} {ms : List Nat} : W x Q c52T2 ks fr H ms = W x Q (.keep [0, 1, 4, 9, 10, 11] (.ops [⟨(some 34), (.bin .add (.t 11) (.k (I 1))), none⟩,
      ⟨(some 11), (.mv (.t 34)), none⟩])) ks fr H ms := rfl
/- live: [0, 1, 4, 6, 7, 8, 9, 10, 11] -/
def c52L1 : ICode :=
  (.seq (.seq (.ops [⟨(some 18), (.mv (.t 8)), none⟩,
    ⟨(some 19), (.mv (.t 1)), none⟩,
    ⟨(some 20), (.len (.t 19)), none⟩,
    ⟨(some 21), (.bin .lss (.t 18) (.t 20)), none⟩])
  (.cond (.t 21)
    .skip
    (.exit 2)))
  (.seq (.block 3 (.seq (.draw 0 [] (.early 1 ⟨(some 24), (.mv (.t 0)), none⟩
    (.early 1 ⟨(some 25), (.load true 3 (.t 7)), none⟩
    (.early 1 ⟨(some 26), (.mv (.t 1)), none⟩
    (.early 1 ⟨(some 27), (.mv (.t 8)), none⟩
    (.early 1 ⟨(some 28), (.ixS 3 (.t 26) (.t 27)), none⟩
    (.early 1 ⟨(some 29), (.load true 3 (.t 28)), none⟩
    (.step 0 0 ⟨(some 30), (.call (.k (.fn (.func 72) [] [])) [(.t 24), (.t 25), (.t 29)]), none⟩
    .done))))))))
  (.keep [0, 1, 4, 6, 7, 8, 9, 10, 11, 30] (.cond (.t 30)
    (.seq (.ops [⟨(some 31), (.mv (.t 6)), none⟩,
      ⟨(some 32), (.mv (.t 8)), none⟩,
      ⟨(some 33), (.build [(I 0), (I 0)] [(0, 1, (.t 31)), (1, 1, (.t 32))]), none⟩,
      ⟨none, (.store 2 (.t 4) (.t 33)), none⟩,
      ⟨(some 5), (.mv (.k (B true))), none⟩])
    .ret)
    .skip))))
  (.ops [⟨(some 22), (.mv (.t 8)), none⟩,
    ⟨(some 23), (.bin .add (.t 22) (.k (I 1))), none⟩,
    ⟨(some 8), (.mv (.t 23)), none⟩])))
theorem w52L1 {x : Cx} {Q : QT} {ks : List Kont} {fr : Fr} {H : AHeap} {ms : List Nat} : W x Q c52L1 ks fr H ms = W x Q (.seq (.seq (.ops [⟨(some 18), (.mv (.t 8)), none⟩,
      ⟨(some 19), (.mv (.t 1)), none⟩,
      ⟨(some 20), (.len (.t 19)), none⟩,
      ⟨(some 21), (.bin .lss (.t 18) (.t 20)), none⟩])
    (.cond (.t 21)
      .skip
      (.exit 2)))
    (.seq (.block 3 (.seq (.draw 0 [] (.early 1 ⟨(some 24), (.mv (.t 0)), none⟩
      (.early 1 ⟨(some 25), (.load true 3 (.t 7)), none⟩
      (.early 1 ⟨(some 26), (.mv (.t 1)), none⟩
      (.early 1 ⟨(some 27), (.mv (.t 8)), none⟩
      (.early 1 ⟨(some 28), (.ixS 3 (.t 26) (.t 27)), none⟩
      (.early 1 ⟨(some 29), (.load true 3 (.t 28)), none⟩
      (.step 0 0 ⟨(some 30), (.call (.k (.fn (.func 72) [] [])) [(.t 24), (.t 25), (.t 29)]), none⟩
      .done))))))))
    (.keep [0, 1, 4, 6, 7, 8, 9, 10, 11, 30] (.cond (.t 30)
      (.seq (.ops [⟨(some 31), (.mv (.t 6)), none⟩,
        ⟨(some 32), (.mv (.t 8)), none⟩,
        ⟨(some 33), (.build [(I 0), (I 0)] [(0, 1, (.t 31)), (1, 1, (.t 32))]), none⟩,
        ⟨none, (.store 2 (.t 4) (.t 33)), none⟩,
        ⟨(some 5), (.mv (.k (B true))), none⟩])
      .ret)
      .skip))))
    (.ops [⟨(some 22), (.mv (.t 8)), none⟩,
      ⟨(some 23), (.bin .add (.t 22) (.k (I 1))), none⟩,
      ⟨(some 8), (.mv (.t 23)), none⟩]))) ks fr H ms := rfl
/- live: [0, 1, 4, 9, 10, 11] -/
def c52L0 : ICode :=
  (.seq (.ops [⟨(some 12), (.bin .lss (.t 11) (.t 10)), none⟩])
  (.seq (.cond (.t 12)
    .skip
    (.exit 0))
  (.seq (.block 1 (.seq (.ops [⟨(some 13), (.mv (.t 11)), none⟩,
    ⟨(some 14), (.ixS 3 (.t 9) (.t 11)), none⟩,
    ⟨(some 15), (.load true 3 (.t 14)), none⟩,
    ⟨(some 7), (.alloc [(I 0), (I 0), (I 0)]), none⟩,
    ⟨(some 6), (.mv (.t 13)), none⟩,
    ⟨none, (.store 3 (.t 7) (.t 15)), none⟩])
  (.seq (.ops [⟨(some 16), (.mv (.t 6)), none⟩,
    ⟨(some 17), (.bin .add (.t 16) (.k (I 1))), none⟩,
    ⟨(some 8), (.mv (.t 17)), none⟩])
  (.block 2 (.loop c52L1)))))
  c52T2)))
theorem w52L0 {x : Cx} {Q : QT} {ks : List Kont} {fr : Fr} {H : AHeap} {ms : List Nat} : W x Q c52L0 ks fr H ms = W x Q (.seq (.ops [⟨(some 12), (.bin .lss (.t 11) (.t 10)), none⟩])
    (.seq (.cond (.t 12)
      .skip
      (.exit 0))
    (.seq (.block 1 (.seq (.ops [⟨(some 13), (.mv (.t 11)), none⟩,
      ⟨(some 14), (.ixS 3 (.t 9) (.t 11)), none⟩,
      ⟨(some 15), (.load true 3 (.t 14)), none⟩,
      ⟨(some 7), (.alloc [(I 0), (I 0), (I 0)]), none⟩,
      ⟨(some 6), (.mv (.t 13)), none⟩,
      ⟨none, (.store 3 (.t 7) (.t 15)), none⟩])
    (.seq (.ops [⟨(some 16), (.mv (.t 6)), none⟩,
      ⟨(some 17), (.bin .add (.t 16) (.k (I 1))), none⟩,
      ⟨(some 8), (.mv (.t 17)), none⟩])
    (.block 2 (.loop c52L1)))))
    c52T2))) ks fr H ms := rfl
def c52 : ICode :=
  (.seq (.ops [⟨(some 4), (.alloc [(I 0), (I 0)]), none⟩,
    ⟨(some 5), (.mv (.k (B false))), none⟩])
  (.seq (.seq (.ops [⟨(some 9), (.mv (.t 1)), none⟩,
    ⟨(some 10), (.len (.t 9)), none⟩,
    ⟨(some 11), (.mv (.k (I 0))), none⟩])
  (.block 0 (.loop c52L0)))
  c52T3))
theorem w52 {x : Cx} {Q : QT} {ks : List Kont} {fr : Fr} {H : AHeap} {ms : List Nat} : W x Q c52 ks fr H ms = W x Q (.seq (.ops [⟨(some 4), (.alloc [(I 0), (I 0)]), none⟩,
      ⟨(some 5), (.mv (.k (B false))), none⟩])
    (.seq (.seq (.ops [⟨(some 9), (.mv (.t 1)), none⟩,
      ⟨(some 10), (.len (.t 9)), none⟩,
      ⟨(some 11), (.mv (.k (I 0))), none⟩])
    (.block 0 (.loop c52L0)))
    c52T3)) ks fr H ms := rfl
def r52 : List IRes := [(.cell true 2 4), (.tmp 5)]
theorem t52 : Try.f52.body.bind (trCode Try.prog Try.f52.ntmps) = some (strip c52) := by kernel_rfl
theorem q52 : trRes Try.prog Try.f52.results.toList = some r52 := by kernel_rfl
theorem fn52 : Try.prog.funcs[52]? = some Try.f52 := by kernel_rfl
theorem nn52 : (Try.f52.name == "runtime.NumGoroutine") = false := by kernel_rfl
theorem nt52 : Try.f52.ntmps = 36 := by kernel_rfl
def c55T1 : ICode :=
  (.keep [0, 1, 5] (.seq (.ops [⟨(some 26), (.mv (.t 0)), none⟩,
    ⟨(some 27), (.len (.t 26)), none⟩,
    ⟨(some 28), (.mv (.t 1)), none⟩,
    ⟨(some 29), (.bin .eql (.t 27) (.t 28)), none⟩,
    ⟨(some 30), (.mv (.t 29)), none⟩,
    ⟨(some 31), (.mv (.t 5)), (some (30, true))⟩,
    ⟨(some 32), (.mv (.t 1)), (some (30, true))⟩,
    ⟨(some 33), (.bin .shl (.k (I 1)) (.t 32)), (some (30, true))⟩,
    ⟨(some 34), (.bin .sub (.t 33) (.k (I 1))), (some (30, true))⟩,
    ⟨(some 35), (.bin .eql (.t 31) (.t 34)), (some (30, true))⟩,
    ⟨(some 36), (.pick (.t 30) (.t 35) (.k (B false))), none⟩,
    ⟨(some 4), (.mv (.t 36)), none⟩])
  .ret))
theorem w55T1 {x : Cx} {Q : QT} {ks : List Kont} {fr : Fr} {H : AHeap} {ms : List Nat} : W x Q c55T1 ks fr H ms = W x Q (.keep [0, 1, 5] (.seq (.ops [⟨(some 26), (.mv (.t 0)), none⟩,
      ⟨(some 27), (.len (.t 26)), none⟩,
      ⟨(some 28), (.mv (.t 1)), none⟩,
      ⟨(some 29), (.bin .eql (.t 27) (.t 28)), none⟩,
      ⟨(some 30), (.mv (.t 29)), none⟩,
      ⟨(some 31), (.mv (.t 5)), (some (30, true))⟩,
      ⟨(some 32), (.mv (.t 1)), (some (30, true))⟩,
      ⟨(some 33), (.bin .shl (.k (I 1)) (.t 32)), (some (30, true))⟩,
      ⟨(some 34), (.bin .sub (.t 33) (.k (I 1))), (some (30, true))⟩,
      ⟨(some 35), (.bin .eql (.t 31) (.t 34)), (some (30, true))⟩,
      ⟨(some 36), (.pick (.t 30) (.t 35) (.k (B false))), none⟩,
      ⟨(some 4), (.mv (.t 36)), none⟩])
    .ret)) ks fr H ms := rfl
/- live: [0, 1, 5, 8, 9, 10] -/
def c55L0 : ICode :=
  (.seq (.ops [⟨(some 11), (.bin .lss (.t 10) (.t 9)), none⟩])
  (.seq (.cond (.t 11)
    .skip
    (.exit 0))
  (.seq (.block 1 (.seq (.ops [⟨(some 12), (.ixS 1 (.t 8) (.t 10)), none⟩,
    ⟨(some 13), (.load false 1 (.t 12)), none⟩,
    ⟨(some 7), (.mv (.t 13)), none⟩])
  (.seq (.seq (.ops [⟨(some 14), (.mv (.t 7)), none⟩,
    ⟨(some 15), (.bin .lss (.t 14) (.k (I 0))), none⟩,
    ⟨(some 16), (.mv (.t 15)), none⟩,
    ⟨(some 17), (.mv (.t 7)), (some (16, false))⟩,
    ⟨(some 18), (.mv (.t 1)), (some (16, false))⟩,
    ⟨(some 19), (.bin .geq (.t 17) (.t 18)), (some (16, false))⟩,
    ⟨(some 20), (.pick (.t 16) (.k (B true)) (.t 19)), none⟩])
  (.cond (.t 20)
    (.seq (.ops [⟨(some 4), (.mv (.k (B false))), none⟩])
    .ret)
    .skip))
  (.ops [⟨(some 21), (.mv (.t 5)), none⟩,
    ⟨(some 22), (.mv (.t 7)), none⟩,
    ⟨(some 23), (.bin .shl (.k (I 1)) (.t 22)), none⟩,
    ⟨(some 24), (.bin .or (.t 21) (.t 23)), none⟩,
    ⟨(some 5), (.mv (.t 24)), none⟩]))))
  (.ops [⟨(some 25), (.bin .add (.t 10) (.k (I 1))), none⟩,
    ⟨(some 10), (.mv (.t 25)), none⟩]))))
theorem w55L0 {x : Cx} {Q : QT} {ks : List Kont} {fr : Fr} {H : AHeap} {ms : List Nat} : W x Q c55L0 ks fr H ms = W x Q (.seq (.ops [⟨(some 11), (.bin .lss (.t 10) (.t 9)), none⟩])
    (.seq (.cond (.t 11)
      .skip
      (.exit 0))
    (.seq (.block 1 (.seq (.ops [⟨(some 12), (.ixS 1 (.t 8) (.t 10)), none⟩,
      ⟨(some 13), (.load false 1 (.t 12)), none⟩,
      ⟨(some 7), (.mv (.t 13)), none⟩])
    (.seq (.seq (.ops [⟨(some 14), (.mv (.t 7)), none⟩,
      ⟨(some 15), (.bin .lss (.t 14) (.k (I 0))), none⟩,
      ⟨(some 16), (.mv (.t 15)), none⟩,
      ⟨(some 17), (.mv (.t 7)), (some (16, false))⟩,
      ⟨(some 18), (.mv (.t 1)), (some (16, false))⟩,
      ⟨(some 19), (.bin .geq (.t 17) (.t 18)), (some (16, false))⟩,
      ⟨(some 20), (.pick (.t 16) (.k (B true)) (.t 19)), none⟩])
    (.cond (.t 20)
      (.seq (.ops [⟨(some 4), (.mv (.k (B false))), none⟩])
      .ret)
      .skip))
    (.ops [⟨(some 21), (.mv (.t 5)), none⟩,
      ⟨(some 22), (.mv (.t 7)), none⟩,
      ⟨(some 23), (.bin .shl (.k (I 1)) (.t 22)), none⟩,
      ⟨(some 24), (.bin .or (.t 21) (.t 23)), none⟩,
      ⟨(some 5), (.mv (.t 24)), none⟩]))))
    (.ops [⟨(some 25), (.bin .add (.t 10) (.k (I 1))), none⟩,
      ⟨(some 10), (.mv (.t 25)), none⟩])))) ks fr H ms := rfl
def c55 : ICode :=
  (.seq (.ops [⟨(some 4), (.mv (.k (B false))), none⟩])
  (.seq (.ops [⟨(some 5), (.mv (.k (I 0))), none⟩])
  (.seq (.seq (.ops [⟨(some 8), (.mv (.t 0)), none⟩,
    ⟨(some 9), (.len (.t 8)), none⟩,
    ⟨(some 10), (.mv (.k (I 0))), none⟩])
  (.block 0 (.loop c55L0)))
  c55T1)))
theorem w55 {x : Cx} {Q : QT} {ks : List Kont} {fr : Fr} {H : AHeap} {ms : List Nat} : W x Q c55 ks fr H ms = W x Q (.seq (.ops [⟨(some 4), (.mv (.k (B false))), none⟩])
    (.seq (.ops [⟨(some 5), (.mv (.k (I 0))), none⟩])
    (.seq (.seq (.ops [⟨(some 8), (.mv (.t 0)), none⟩,
      ⟨(some 9), (.len (.t 8)), none⟩,
      ⟨(some 10), (.mv (.k (I 0))), none⟩])
    (.block 0 (.loop c55L0)))
    c55T1))) ks fr H ms := rfl
def r55 : List IRes := [(.tmp 4)]
theorem t55 : Try.f55.body.bind (trCode Try.prog Try.f55.ntmps) = some (strip c55) := by kernel_rfl
theorem q55 : trRes Try.prog Try.f55.results.toList = some r55 := by kernel_rfl
theorem fn55 : Try.prog.funcs[55]? = some Try.f55 := by kernel_rfl
theorem nn55 : (Try.f55.name == "runtime.NumGoroutine") = false := by kernel_rfl
theorem nt55 : Try.f55.ntmps = 37 := by kernel_rfl
def c72 : ICode :=
  (.seq (.ops [⟨(some 4), (.box (.t 1)), none⟩,
    ⟨(some 5), (.box (.t 2)), none⟩,
    ⟨(some 6), (.mv (.k (B false))), none⟩])
  (.seq (.seq (.ops [⟨(some 12), (.fldA 2 (.t 4)), none⟩,
    ⟨(some 13), (.load false 1 (.t 12)), none⟩,
    ⟨(some 14), (.fldA 2 (.t 5)), none⟩,
    ⟨(some 15), (.load false 1 (.t 14)), none⟩,
    ⟨(some 16), (.bin .neq (.t 13) (.t 15)), none⟩])
  (.cond (.t 16)
    (.seq (.ops [⟨(some 6), (.mv (.k (B false))), none⟩])
    .ret)
    .skip))
  (.seq (.ops [⟨(some 18), (.mv (.t 0)), none⟩,
    ⟨(some 19), (.load true 3 (.t 4)), none⟩,
    ⟨(some 20), (.call (.k (.fn (.func 79) [] [])) [(.t 18), (.t 19)]), none⟩,
    ⟨(some 17), (.mv (.t 20)), none⟩,
    ⟨(some 21), (.ext (.t 17) 0), none⟩,
    ⟨(some 22), (.ext (.t 17) 1), none⟩,
    ⟨(some 7), (.alloc [(I 0)]), none⟩,
    ⟨(some 8), (.alloc [(I 0)]), none⟩,
    ⟨none, (.store 1 (.t 7) (.t 21)), none⟩,
    ⟨none, (.store 1 (.t 8) (.t 22)), none⟩])
  (.seq (.ops [⟨(some 24), (.mv (.t 0)), none⟩,
    ⟨(some 25), (.load true 3 (.t 5)), none⟩,
    ⟨(some 26), (.call (.k (.fn (.func 79) [] [])) [(.t 24), (.t 25)]), none⟩,
    ⟨(some 23), (.mv (.t 26)), none⟩,
    ⟨(some 27), (.ext (.t 23) 0), none⟩,
    ⟨(some 28), (.ext (.t 23) 1), none⟩,
    ⟨(some 9), (.mv (.t 27)), none⟩,
    ⟨(some 10), (.mv (.t 28)), none⟩])
  (.seq (.ops [⟨(some 29), (.mkfn (.func 80) [] [(.t 7), (.t 8)]), none⟩,
    ⟨(some 11), (.mv (.t 29)), none⟩])
  (.seq (.ops [⟨(some 30), (.mv (.t 11)), none⟩,
    ⟨(some 31), (.mv (.t 9)), none⟩,
    ⟨(some 32), (.call (.t 30) [(.t 31)]), none⟩,
    ⟨(some 33), (.mv (.t 11)), none⟩,
    ⟨(some 34), (.mv (.t 10)), none⟩,
    ⟨(some 35), (.call (.t 33) [(.t 34)]), none⟩,
    ⟨(some 36), (.eqb true (.t 32) (.t 35)), none⟩,
    ⟨(some 6), (.mv (.t 36)), none⟩])
  .ret))))))
theorem w72 {x : Cx} {Q : QT} {ks : List Kont} {fr : Fr} {H : AHeap} {ms : List Nat} : W x Q c72 ks fr H ms = W x Q (.seq (.ops [⟨(some 4), (.box (.t 1)), none⟩,
      ⟨(some 5), (.box (.t 2)), none⟩,
      ⟨(some 6), (.mv (.k (B false))), none⟩])
    (.seq (.seq (.ops [⟨(some 12), (.fldA 2 (.t 4)), none⟩,
      ⟨(some 13), (.load false 1 (.t 12)), none⟩,
      ⟨(some 14), (.fldA 2 (.t 5)), none⟩,
      ⟨(some 15), (.load false 1 (.t 14)), none⟩,
      ⟨(some 16), (.bin .neq (.t 13) (.t 15)), none⟩])
    (.cond (.t 16)
      (.seq (.ops [⟨(some 6), (.mv (.k (B false))), none⟩])
      .ret)
      .skip))
    (.seq (.ops [⟨(some 18), (.mv (.t 0)), none⟩,
      ⟨(some 19), (.load true 3 (.t 4)), none⟩,
      ⟨(some 20), (.call (.k (.fn (.func 79) [] [])) [(.t 18), (.t 19)]), none⟩,
      ⟨(some 17), (.mv (.t 20)), none⟩,
      ⟨(some 21), (.ext (.t 17) 0), none⟩,
      ⟨(some 22), (.ext (.t 17) 1), none⟩,
      ⟨(some 7), (.alloc [(I 0)]), none⟩,
      ⟨(some 8), (.alloc [(I 0)]), none⟩,
      ⟨none, (.store 1 (.t 7) (.t 21)), none⟩,
      ⟨none, (.store 1 (.t 8) (.t 22)), none⟩])
    (.seq (.ops [⟨(some 24), (.mv (.t 0)), none⟩,
      ⟨(some 25), (.load true 3 (.t 5)), none⟩,
      ⟨(some 26), (.call (.k (.fn (.func 79) [] [])) [(.t 24), (.t 25)]), none⟩,
      ⟨(some 23), (.mv (.t 26)), none⟩,
      ⟨(some 27), (.ext (.t 23) 0), none⟩,
      ⟨(some 28), (.ext (.t 23) 1), none⟩,
      ⟨(some 9), (.mv (.t 27)), none⟩,
      ⟨(some 10), (.mv (.t 28)), none⟩])
    (.seq (.ops [⟨(some 29), (.mkfn (.func 80) [] [(.t 7), (.t 8)]), none⟩,
      ⟨(some 11), (.mv (.t 29)), none⟩])
    (.seq (.ops [⟨(some 30), (.mv (.t 11)), none⟩,
      ⟨(some 31), (.mv (.t 9)), none⟩,
      ⟨(some 32), (.call (.t 30) [(.t 31)]), none⟩,
      ⟨(some 33), (.mv (.t 11)), none⟩,
      ⟨(some 34), (.mv (.t 10)), none⟩,
      ⟨(some 35), (.call (.t 33) [(.t 34)]), none⟩,
      ⟨(some 36), (.eqb true (.t 32) (.t 35)), none⟩,
      ⟨(some 6), (.mv (.t 36)), none⟩])
    .ret)))))) ks fr H ms := rfl
def r72 : List IRes := [(.tmp 6)]
theorem t72 : Try.f72.body.bind (trCode Try.prog Try.f72.ntmps) = some (strip c72) := by kernel_rfl
theorem q72 : trRes Try.prog Try.f72.results.toList = some r72 := by kernel_rfl
theorem fn72 : Try.prog.funcs[72]? = some Try.f72 := by kernel_rfl
theorem nn72 : (Try.f72.name == "runtime.NumGoroutine") = false := by kernel_rfl
theorem nt72 : Try.f72.ntmps = 37 := by kernel_rfl
def c79 : ICode :=
  (.seq (.ops [⟨(some 3), (.box (.t 1)), none⟩,
    ⟨(some 4), (.mv (.k (I 0))), none⟩,
    ⟨(some 5), (.mv (.k (I 0))), none⟩])
  (.seq (.draw 0 [] (.early 1 ⟨(some 6), (.mv (.t 0)), none⟩
    (.early 1 ⟨(some 7), (.fldA 0 (.t 3)), none⟩
    (.early 1 ⟨(some 8), (.load false 1 (.t 7)), none⟩
    (.early 1 ⟨(some 9), (.ixS 1 (.t 6) (.t 8)), none⟩
    (.early 1 ⟨(some 10), (.load false 1 (.t 9)), none⟩
    (.early 1 ⟨(some 11), (.mv (.t 0)), none⟩
    (.early 1 ⟨(some 12), (.fldA 1 (.t 3)), none⟩
    (.early 1 ⟨(some 13), (.load false 1 (.t 12)), none⟩
    (.early 1 ⟨(some 14), (.ixS 1 (.t 11) (.t 13)), none⟩
    (.early 1 ⟨(some 15), (.load false 1 (.t 14)), none⟩
    (.early 1 ⟨(some 16), (.mn (.t 10) (.t 15)), none⟩
    (.early 1 ⟨(some 17), (.mv (.t 0)), none⟩
    (.early 1 ⟨(some 18), (.fldA 0 (.t 3)), none⟩
    (.early 1 ⟨(some 19), (.load false 1 (.t 18)), none⟩
    (.early 1 ⟨(some 20), (.ixS 1 (.t 17) (.t 19)), none⟩
    (.early 1 ⟨(some 21), (.load false 1 (.t 20)), none⟩
    (.early 1 ⟨(some 22), (.mv (.t 0)), none⟩
    (.early 1 ⟨(some 23), (.fldA 1 (.t 3)), none⟩
    (.early 1 ⟨(some 24), (.load false 1 (.t 23)), none⟩
    (.early 1 ⟨(some 25), (.ixS 1 (.t 22) (.t 24)), none⟩
    (.early 1 ⟨(some 26), (.load false 1 (.t 25)), none⟩
    (.early 1 ⟨(some 27), (.mx (.t 21) (.t 26)), none⟩
    (.early 1 ⟨(some 4), (.mv (.t 16)), none⟩
    (.early 0 ⟨(some 5), (.mv (.t 27)), none⟩
    .done)))))))))))))))))))))))))
  (.keep [4, 5] .ret)))
theorem w79 {x : Cx} {Q : QT} {ks : List Kont} {fr : Fr} {H : AHeap} {ms : List Nat} : W x Q c79 ks fr H ms = W x Q (.seq (.ops [⟨(some 3), (.box (.t 1)), none⟩,
      ⟨(some 4), (.mv (.k (I 0))), none⟩,
      ⟨(some 5), (.mv (.k (I 0))), none⟩])
    (.seq (.draw 0 [] (.early 1 ⟨(some 6), (.mv (.t 0)), none⟩
      (.early 1 ⟨(some 7), (.fldA 0 (.t 3)), none⟩
      (.early 1 ⟨(some 8), (.load false 1 (.t 7)), none⟩
      (.early 1 ⟨(some 9), (.ixS 1 (.t 6) (.t 8)), none⟩
      (.early 1 ⟨(some 10), (.load false 1 (.t 9)), none⟩
      (.early 1 ⟨(some 11), (.mv (.t 0)), none⟩
      (.early 1 ⟨(some 12), (.fldA 1 (.t 3)), none⟩
      (.early 1 ⟨(some 13), (.load false 1 (.t 12)), none⟩
      (.early 1 ⟨(some 14), (.ixS 1 (.t 11) (.t 13)), none⟩
      (.early 1 ⟨(some 15), (.load false 1 (.t 14)), none⟩
      (.early 1 ⟨(some 16), (.mn (.t 10) (.t 15)), none⟩
      (.early 1 ⟨(some 17), (.mv (.t 0)), none⟩
      (.early 1 ⟨(some 18), (.fldA 0 (.t 3)), none⟩
      (.early 1 ⟨(some 19), (.load false 1 (.t 18)), none⟩
      (.early 1 ⟨(some 20), (.ixS 1 (.t 17) (.t 19)), none⟩
      (.early 1 ⟨(some 21), (.load false 1 (.t 20)), none⟩
      (.early 1 ⟨(some 22), (.mv (.t 0)), none⟩
      (.early 1 ⟨(some 23), (.fldA 1 (.t 3)), none⟩
      (.early 1 ⟨(some 24), (.load false 1 (.t 23)), none⟩
      (.early 1 ⟨(some 25), (.ixS 1 (.t 22) (.t 24)), none⟩
      (.early 1 ⟨(some 26), (.load false 1 (.t 25)), none⟩
      (.early 1 ⟨(some 27), (.mx (.t 21) (.t 26)), none⟩
      (.early 1 ⟨(some 4), (.mv (.t 16)), none⟩
      (.early 0 ⟨(some 5), (.mv (.t 27)), none⟩
      .done)))))))))))))))))))))))))
    (.keep [4, 5] .ret))) ks fr H ms := rfl
def r79 : List IRes := [(.tmp 4), (.tmp 5)]
theorem t79 : Try.f79.body.bind (trCode Try.prog Try.f79.ntmps) = some (strip c79) := by kernel_rfl
theorem q79 : trRes Try.prog Try.f79.results.toList = some r79 := by kernel_rfl
theorem fn79 : Try.prog.funcs[79]? = some Try.f79 := by kernel_rfl
theorem nn79 : (Try.f79.name == "runtime.NumGoroutine") = false := by kernel_rfl
theorem nt79 : Try.f79.ntmps = 28 := by kernel_rfl
def c80 : ICode :=
  (.seq (.ops [⟨(some 4), (.mv (.k (B false))), none⟩])
  (.seq (.ops [⟨(some 5), (.load false 1 (.t 1)), none⟩,
    ⟨(some 6), (.mv (.t 0)), none⟩,
    ⟨(some 7), (.bin .lss (.t 5) (.t 6)), none⟩,
    ⟨(some 8), (.mv (.t 7)), none⟩,
    ⟨(some 9), (.mv (.t 0)), (some (8, true))⟩,
    ⟨(some 10), (.load false 1 (.t 2)), (some (8, true))⟩,
    ⟨(some 11), (.bin .lss (.t 9) (.t 10)), (some (8, true))⟩,
    ⟨(some 12), (.pick (.t 8) (.t 11) (.k (B false))), none⟩,
    ⟨(some 4), (.mv (.t 12)), none⟩])
  .ret))
theorem w80 {x : Cx} {Q : QT} {ks : List Kont} {fr : Fr} {H : AHeap} {ms : List Nat} : W x Q c80 ks fr H ms = W x Q (.seq (.ops [⟨(some 4), (.mv (.k (B false))), none⟩])
    (.seq (.ops [⟨(some 5), (.load false 1 (.t 1)), none⟩,
      ⟨(some 6), (.mv (.t 0)), none⟩,
      ⟨(some 7), (.bin .lss (.t 5) (.t 6)), none⟩,
      ⟨(some 8), (.mv (.t 7)), none⟩,
      ⟨(some 9), (.mv (.t 0)), (some (8, true))⟩,
      ⟨(some 10), (.load false 1 (.t 2)), (some (8, true))⟩,
      ⟨(some 11), (.bin .lss (.t 9) (.t 10)), (some (8, true))⟩,
      ⟨(some 12), (.pick (.t 8) (.t 11) (.k (B false))), none⟩,
      ⟨(some 4), (.mv (.t 12)), none⟩])
    .ret)) ks fr H ms := rfl
def r80 : List IRes := [(.tmp 4)]
theorem t80 : Try.f80.body.bind (trCode Try.prog Try.f80.ntmps) = some (strip c80) := by kernel_rfl
theorem q80 : trRes Try.prog Try.f80.results.toList = some r80 := by kernel_rfl
theorem fn80 : Try.prog.funcs[80]? = some Try.f80 := by kernel_rfl
theorem nn80 : (Try.f80.name == "runtime.NumGoroutine") = false := by kernel_rfl
theorem nt80 : Try.f80.ntmps = 13 := by kernel_rfl
def c15 : ICode :=
  (.seq (.ops [⟨(some 2), (.mv (.k (B false))), none⟩,
    ⟨(some 3), (.mv (.k (I 0))), none⟩])
  (.seq (.seq (.ops [⟨(some 4), (.mv (.t 0)), none⟩,
    ⟨(some 5), (.call (.k (.fn (.func 48) [] [])) [(.t 4)]), none⟩,
    ⟨(some 6), (.un .not (.t 5)), none⟩])
  (.cond (.t 6)
    (.seq (.ops [⟨(some 2), (.mv (.k (B false))), none⟩,
      ⟨(some 3), (.mv (.k (I 2))), none⟩])
    .ret)
    .skip))
  (.seq (.ops [⟨(some 7), (.mv (.t 0)), none⟩,
    ⟨(some 8), (.mv (.t 0)), none⟩,
    ⟨(some 9), (.len (.t 8)), none⟩,
    ⟨(some 10), (.call (.k (.fn (.func 50) [] [])) [(.t 9)]), none⟩,
    ⟨(some 11), (.call (.k (.fn (.func 49) [] [])) [(.t 7), (.t 10)]), none⟩,
    ⟨(some 2), (.mv (.t 11)), none⟩,
    ⟨(some 3), (.mv (.k (I 0))), none⟩])
  .ret)))
theorem w15 {x : Cx} {Q : QT} {ks : List Kont} {fr : Fr} {H : AHeap} {ms : List Nat} : W x Q c15 ks fr H ms = W x Q (.seq (.ops [⟨(some 2), (.mv (.k (B false))), none⟩,
      ⟨(some 3), (.mv (.k (I 0))), none⟩])
    (.seq (.seq (.ops [⟨(some 4), (.mv (.t 0)), none⟩,
      ⟨(some 5), (.call (.k (.fn (.func 48) [] [])) [(.t 4)]), none⟩,
      ⟨(some 6), (.un .not (.t 5)), none⟩])
    (.cond (.t 6)
      (.seq (.ops [⟨(some 2), (.mv (.k (B false))), none⟩,
        ⟨(some 3), (.mv (.k (I 2))), none⟩])
      .ret)
      .skip))
    (.seq (.ops [⟨(some 7), (.mv (.t 0)), none⟩,
      ⟨(some 8), (.mv (.t 0)), none⟩,
      ⟨(some 9), (.len (.t 8)), none⟩,
      ⟨(some 10), (.call (.k (.fn (.func 50) [] [])) [(.t 9)]), none⟩,
      ⟨(some 11), (.call (.k (.fn (.func 49) [] [])) [(.t 7), (.t 10)]), none⟩,
      ⟨(some 2), (.mv (.t 11)), none⟩,
      ⟨(some 3), (.mv (.k (I 0))), none⟩])
    .ret))) ks fr H ms := rfl
def r15 : List IRes := [(.tmp 2), (.tmp 3)]
theorem t15 : Try.f15.body.bind (trCode Try.prog Try.f15.ntmps) = some (strip c15) := by kernel_rfl
theorem q15 : trRes Try.prog Try.f15.results.toList = some r15 := by kernel_rfl
theorem fn15 : Try.prog.funcs[15]? = some Try.f15 := by kernel_rfl
theorem nn15 : (Try.f15.name == "runtime.NumGoroutine") = false := by kernel_rfl
theorem nt15 : Try.f15.ntmps = 12 := by kernel_rfl
end Go.Proofs.Ythdjloegibenoaa
