/- The code of some functions of the program, cleaned: printed by a program of mine, checked here. -/
import Derived.Test.YtkmmngphcodjjaaProg
import Derived.Test.YtkmmngphcodjjaaAS
import Derived.KernelRfl
import Derived.Test.YtkmmngphcodjjaaCD
namespace Go.Proofs.Ytkmmngphcodjjaa
open Go.Abs AVal
def c62T1 : ICode :=
  (.keep [5] (.seq (.ops [⟨(some 37), (.mv (.t 5)), none⟩,
    ⟨(some 4), (.mv (.t 37)), none⟩])
  .ret))
theorem w62T1 {x : Cx} {Q : QT} {ks : List Kont} {fr : Fr} {H : AHeap} {ms : List Nat} : W x Q c62T1 ks fr H ms = W x Q (.keep [5] (.seq (.ops [⟨(some 37), (.mv (.t 5)), none⟩,
      ⟨(some 4), (.mv (.t 37)), none⟩])
    .ret)) ks fr H ms := rfl
/- live: [0, 5, 6, 16, 17, 18] -/
def c62L0 : ICode :=
  (.seq (.ops [⟨(some 19), (.bin .lss (.t 18) (.t 17)), none⟩])
  (.seq (.cond (.t 19)
    .skip
    (.exit 0))
  (.seq (.block 1 (.seq (.ops [⟨(some 20), (.ixS 1 (.t 16) (.t 18)), none⟩,
    ⟨(some 21), (.load false 1 (.t 20)), none⟩,
    ⟨(some 8), (.mv (.t 21)), none⟩])
  (.seq (.ops [⟨(some 22), (.mv (.t 5)), none⟩,
    ⟨(some 23), (.mv (.t 8)), none⟩,
    ⟨(some 24), (.mv (.t 0)), none⟩,
    ⟨(some 25), (.mv (.t 8)), none⟩,
    ⟨(some 26), (.mv (.t 6)), none⟩,
    ⟨(some 27), (.call (.k (.fn (.func 81) [] [])) [(.t 24), (.t 25), (.t 26)]), none⟩,
    ⟨(some 28), (.ixS 1 (.t 22) (.t 23)), none⟩,
    ⟨none, (.store 1 (.t 28) (.t 27)), none⟩])
  (.ops [⟨(some 29), (.mv (.t 6)), none⟩,
    ⟨(some 30), (.mv (.t 5)), none⟩,
    ⟨(some 31), (.mv (.t 8)), none⟩,
    ⟨(some 32), (.ixS 1 (.t 30) (.t 31)), none⟩,
    ⟨(some 33), (.load false 1 (.t 32)), none⟩,
    ⟨(some 34), (.bin .shl (.k (I 1)) (.t 33)), none⟩,
    ⟨(some 35), (.bin .andNot (.t 29) (.t 34)), none⟩,
    ⟨(some 6), (.mv (.t 35)), none⟩]))))
  (.ops [⟨(some 36), (.bin .add (.t 18) (.k (I 1))), none⟩,
    ⟨(some 18), (.mv (.t 36)), none⟩]))))
theorem w62L0 {x : Cx} {Q : QT} {ks : List Kont} {fr : Fr} {H : AHeap} {ms : List Nat} : W x Q c62L0 ks fr H ms = W x Q (.seq (.ops [⟨(some 19), (.bin .lss (.t 18) (.t 17)), none⟩])
    (.seq (.cond (.t 19)
      .skip
      (.exit 0))
    (.seq (.block 1 (.seq (.ops [⟨(some 20), (.ixS 1 (.t 16) (.t 18)), none⟩,
      ⟨(some 21), (.load false 1 (.t 20)), none⟩,
      ⟨(some 8), (.mv (.t 21)), none⟩])
    (.seq (.ops [⟨(some 22), (.mv (.t 5)), none⟩,
      ⟨(some 23), (.mv (.t 8)), none⟩,
      ⟨(some 24), (.mv (.t 0)), none⟩,
      ⟨(some 25), (.mv (.t 8)), none⟩,
      ⟨(some 26), (.mv (.t 6)), none⟩,
      ⟨(some 27), (.call (.k (.fn (.func 81) [] [])) [(.t 24), (.t 25), (.t 26)]), none⟩,
      ⟨(some 28), (.ixS 1 (.t 22) (.t 23)), none⟩,
      ⟨none, (.store 1 (.t 28) (.t 27)), none⟩])
    (.ops [⟨(some 29), (.mv (.t 6)), none⟩,
      ⟨(some 30), (.mv (.t 5)), none⟩,
      ⟨(some 31), (.mv (.t 8)), none⟩,
      ⟨(some 32), (.ixS 1 (.t 30) (.t 31)), none⟩,
      ⟨(some 33), (.load false 1 (.t 32)), none⟩,
      ⟨(some 34), (.bin .shl (.k (I 1)) (.t 33)), none⟩,
      ⟨(some 35), (.bin .andNot (.t 29) (.t 34)), none⟩,
      ⟨(some 6), (.mv (.t 35)), none⟩]))))
    (.ops [⟨(some 36), (.bin .add (.t 18) (.k (I 1))), none⟩,
      ⟨(some 18), (.mv (.t 36)), none⟩])))) ks fr H ms := rfl
def c62 : ICode :=
  (.seq (.ops [⟨(some 4), (.mv (.k nilSl)), none⟩])
  (.seq (.ops [⟨(some 9), (.mv (.t 0)), none⟩,
    ⟨(some 10), (.len (.t 9)), none⟩,
    ⟨(some 11), (.mksl 1 8 [(I 0)] (.t 10) (.t 10)), none⟩,
    ⟨(some 5), (.mv (.t 11)), none⟩])
  (.seq (.ops [⟨(some 12), (.mv (.t 0)), none⟩,
    ⟨(some 13), (.len (.t 12)), none⟩,
    ⟨(some 14), (.bin .shl (.k (I 1)) (.t 13)), none⟩,
    ⟨(some 15), (.bin .sub (.t 14) (.k (I 1))), none⟩,
    ⟨(some 6), (.mv (.t 15)), none⟩])
  (.seq (.seq (.ops [⟨(some 16), (.mv (.t 1)), none⟩,
    ⟨(some 17), (.len (.t 16)), none⟩,
    ⟨(some 18), (.mv (.k (I 0))), none⟩])
  (.block 0 (.loop c62L0)))
  c62T1))))
theorem w62 {x : Cx} {Q : QT} {ks : List Kont} {fr : Fr} {H : AHeap} {ms : List Nat} : W x Q c62 ks fr H ms = W x Q (.seq (.ops [⟨(some 4), (.mv (.k nilSl)), none⟩])
    (.seq (.ops [⟨(some 9), (.mv (.t 0)), none⟩,
      ⟨(some 10), (.len (.t 9)), none⟩,
      ⟨(some 11), (.mksl 1 8 [(I 0)] (.t 10) (.t 10)), none⟩,
      ⟨(some 5), (.mv (.t 11)), none⟩])
    (.seq (.ops [⟨(some 12), (.mv (.t 0)), none⟩,
      ⟨(some 13), (.len (.t 12)), none⟩,
      ⟨(some 14), (.bin .shl (.k (I 1)) (.t 13)), none⟩,
      ⟨(some 15), (.bin .sub (.t 14) (.k (I 1))), none⟩,
      ⟨(some 6), (.mv (.t 15)), none⟩])
    (.seq (.seq (.ops [⟨(some 16), (.mv (.t 1)), none⟩,
      ⟨(some 17), (.len (.t 16)), none⟩,
      ⟨(some 18), (.mv (.k (I 0))), none⟩])
    (.block 0 (.loop c62L0)))
    c62T1)))) ks fr H ms := rfl
def r62 : List IRes := [(.tmp 4)]
theorem t62 : Try.f62.body.bind (trCode Try.prog Try.f62.ntmps) = some (strip c62) := by kernel_rfl
theorem q62 : trRes Try.prog Try.f62.results.toList = some r62 := by kernel_rfl
theorem fn62 : Try.prog.funcs[62]? = some Try.f62 := by kernel_rfl
theorem nn62 : (Try.f62.name == "runtime.NumGoroutine") = false := by kernel_rfl
theorem nt62 : Try.f62.ntmps = 38 := by kernel_rfl
def c30 : ICode :=
  (.seq (.ops [⟨(some 4), (.mv (.k nilSl)), none⟩,
    ⟨(some 5), (.mv (.k (I 0))), none⟩])
  (.seq (.seq (.ops [⟨(some 6), (.mv (.t 0)), none⟩,
    ⟨(some 7), (.call (.k (.fn (.func 55) [] [])) [(.t 6)]), none⟩,
    ⟨(some 8), (.un .not (.t 7)), none⟩,
    ⟨(some 9), (.mv (.t 8)), none⟩,
    ⟨(some 10), (.mv (.t 1)), (some (9, false))⟩,
    ⟨(some 11), (.mv (.t 0)), (some (9, false))⟩,
    ⟨(some 12), (.len (.t 11)), (some (9, false))⟩,
    ⟨(some 13), (.call (.k (.fn (.func 59) [] [])) [(.t 10), (.t 12)]), (some (9, false))⟩,
    ⟨(some 14), (.un .not (.t 13)), (some (9, false))⟩,
    ⟨(some 15), (.pick (.t 9) (.k (B true)) (.t 14)), none⟩])
  (.cond (.t 15)
    (.seq (.ops [⟨(some 4), (.mv (.k nilSl)), none⟩,
      ⟨(some 5), (.mv (.k (I 2))), none⟩])
    .ret)
    .skip))
  (.seq (.ops [⟨(some 16), (.mv (.t 0)), none⟩,
    ⟨(some 17), (.mv (.t 1)), none⟩,
    ⟨(some 18), (.call (.k (.fn (.func 62) [] [])) [(.t 16), (.t 17)]), none⟩,
    ⟨(some 4), (.mv (.t 18)), none⟩,
    ⟨(some 5), (.mv (.k (I 0))), none⟩])
  .ret)))
theorem w30 {x : Cx} {Q : QT} {ks : List Kont} {fr : Fr} {H : AHeap} {ms : List Nat} : W x Q c30 ks fr H ms = W x Q (.seq (.ops [⟨(some 4), (.mv (.k nilSl)), none⟩,
      ⟨(some 5), (.mv (.k (I 0))), none⟩])
    (.seq (.seq (.ops [⟨(some 6), (.mv (.t 0)), none⟩,
      ⟨(some 7), (.call (.k (.fn (.func 55) [] [])) [(.t 6)]), none⟩,
      ⟨(some 8), (.un .not (.t 7)), none⟩,
      ⟨(some 9), (.mv (.t 8)), none⟩,
      ⟨(some 10), (.mv (.t 1)), (some (9, false))⟩,
      ⟨(some 11), (.mv (.t 0)), (some (9, false))⟩,
      ⟨(some 12), (.len (.t 11)), (some (9, false))⟩,
      ⟨(some 13), (.call (.k (.fn (.func 59) [] [])) [(.t 10), (.t 12)]), (some (9, false))⟩,
      ⟨(some 14), (.un .not (.t 13)), (some (9, false))⟩,
      ⟨(some 15), (.pick (.t 9) (.k (B true)) (.t 14)), none⟩])
    (.cond (.t 15)
      (.seq (.ops [⟨(some 4), (.mv (.k nilSl)), none⟩,
        ⟨(some 5), (.mv (.k (I 2))), none⟩])
      .ret)
      .skip))
    (.seq (.ops [⟨(some 16), (.mv (.t 0)), none⟩,
      ⟨(some 17), (.mv (.t 1)), none⟩,
      ⟨(some 18), (.call (.k (.fn (.func 62) [] [])) [(.t 16), (.t 17)]), none⟩,
      ⟨(some 4), (.mv (.t 18)), none⟩,
      ⟨(some 5), (.mv (.k (I 0))), none⟩])
    .ret))) ks fr H ms := rfl
def r30 : List IRes := [(.tmp 4), (.tmp 5)]
theorem t30 : Try.f30.body.bind (trCode Try.prog Try.f30.ntmps) = some (strip c30) := by kernel_rfl
theorem q30 : trRes Try.prog Try.f30.results.toList = some r30 := by kernel_rfl
theorem fn30 : Try.prog.funcs[30]? = some Try.f30 := by kernel_rfl
theorem nn30 : (Try.f30.name == "runtime.NumGoroutine") = false := by kernel_rfl
theorem nt30 : Try.f30.ntmps = 19 := by kernel_rfl
def c63 : ICode :=
  (.seq (.ops [⟨(some 2), (.box (.t 0)), none⟩,
    ⟨(some 3), (.box (.t 1)), none⟩,
    ⟨(some 4), (.mv (.k (.val .nilFunc))), none⟩])
  (.seq (.ops [⟨(some 5), (.mkfn (.func 82) [] [(.t 2), (.t 3)]), none⟩,
    ⟨(some 4), (.mv (.t 5)), none⟩])
  .ret))
theorem w63 {x : Cx} {Q : QT} {ks : List Kont} {fr : Fr} {H : AHeap} {ms : List Nat} : W x Q c63 ks fr H ms = W x Q (.seq (.ops [⟨(some 2), (.box (.t 0)), none⟩,
      ⟨(some 3), (.box (.t 1)), none⟩,
      ⟨(some 4), (.mv (.k (.val .nilFunc))), none⟩])
    (.seq (.ops [⟨(some 5), (.mkfn (.func 82) [] [(.t 2), (.t 3)]), none⟩,
      ⟨(some 4), (.mv (.t 5)), none⟩])
    .ret)) ks fr H ms := rfl
def r63 : List IRes := [(.tmp 4)]
theorem t63 : Try.f63.body.bind (trCode Try.prog Try.f63.ntmps) = some (strip c63) := by kernel_rfl
theorem q63 : trRes Try.prog Try.f63.results.toList = some r63 := by kernel_rfl
theorem fn63 : Try.prog.funcs[63]? = some Try.f63 := by kernel_rfl
theorem nn63 : (Try.f63.name == "runtime.NumGoroutine") = false := by kernel_rfl
theorem nt63 : Try.f63.ntmps = 6 := by kernel_rfl
def c83T1 : ICode :=
  (.keep [] (.seq (.ops [⟨(some 9), (.mv (.k (B true))), none⟩])
  .ret))
theorem w83T1 {x : Cx} {Q : QT} {ks : List Kont} {fr : Fr} {H : AHeap} {ms : List Nat} : W x Q c83T1 ks fr H ms = W x Q (.keep [] (.seq (.ops [⟨(some 9), (.mv (.k (B true))), none⟩])
    .ret)) ks fr H ms := rfl
/- live: [0, 1, 4, 6, 27, 28] -/
def c83L0 : ICode :=
  (.seq (.ops [⟨(some 29), (.bin .lss (.t 28) (.t 27)), none⟩])
  (.seq (.cond (.t 29)
    .skip
    (.exit 0))
  (.seq (.block 1 (.seq (.ops [⟨(some 30), (.mv (.t 28)), none⟩,
    ⟨(some 10), (.mv (.t 30)), none⟩])
  (.seq (.ops [⟨(some 31), (.mv (.t 1)), none⟩,
    ⟨(some 32), (.mv (.t 10)), none⟩,
    ⟨(some 33), (.bin .shr (.t 31) (.t 32)), none⟩,
    ⟨(some 34), (.bin .and (.t 33) (.k (I 1))), none⟩,
    ⟨(some 35), (.bin .eql (.t 34) (.k (I 1))), none⟩])
  (.cond (.t 35)
    (.seq (.ops [⟨(some 36), (.load false 1 (.t 4)), none⟩,
      ⟨(some 37), (.mv (.t 0)), none⟩,
      ⟨(some 38), (.mv (.t 10)), none⟩,
      ⟨(some 39), (.ixS 1 (.t 36) (.t 37)), none⟩,
      ⟨none, (.store 1 (.t 39) (.t 38)), none⟩])
    (.seq (.draw 0 [] (.early 1 ⟨(some 40), (.load false 1 (.t 6)), none⟩
      (.early 1 ⟨(some 41), (.mv (.t 0)), none⟩
      (.early 1 ⟨(some 42), (.bin .add (.t 41) (.k (I 1))), none⟩
      (.early 1 ⟨(some 43), (.mv (.t 1)), none⟩
      (.early 1 ⟨(some 44), (.mv (.t 10)), none⟩
      (.early 1 ⟨(some 45), (.bin .shl (.k (I 1)) (.t 44)), none⟩
      (.early 1 ⟨(some 46), (.bin .andNot (.t 43) (.t 45)), none⟩
      (.step 0 0 ⟨(some 47), (.call (.t 40) [(.t 42), (.t 46)]), none⟩
      (.early 0 ⟨(some 48), (.un .not (.t 47)), none⟩
      .done))))))))))
    (.keep [0, 1, 4, 6, 27, 28, 48] (.cond (.t 48)
      (.seq (.ops [⟨(some 9), (.mv (.k (B false))), none⟩])
      .ret)
      .skip))))
    .skip))))
  (.ops [⟨(some 49), (.bin .add (.t 28) (.k (I 1))), none⟩,
    ⟨(some 28), (.mv (.t 49)), none⟩]))))
theorem w83L0 {x : Cx} {Q : QT} {ks : List Kont} {fr : Fr} {H : AHeap} {ms : List Nat} : W x Q c83L0 ks fr H ms = W x Q (.seq (.ops [⟨(some 29), (.bin .lss (.t 28) (.t 27)), none⟩])
    (.seq (.cond (.t 29)
      .skip
      (.exit 0))
    (.seq (.block 1 (.seq (.ops [⟨(some 30), (.mv (.t 28)), none⟩,
      ⟨(some 10), (.mv (.t 30)), none⟩])
    (.seq (.ops [⟨(some 31), (.mv (.t 1)), none⟩,
      ⟨(some 32), (.mv (.t 10)), none⟩,
      ⟨(some 33), (.bin .shr (.t 31) (.t 32)), none⟩,
      ⟨(some 34), (.bin .and (.t 33) (.k (I 1))), none⟩,
      ⟨(some 35), (.bin .eql (.t 34) (.k (I 1))), none⟩])
    (.cond (.t 35)
      (.seq (.ops [⟨(some 36), (.load false 1 (.t 4)), none⟩,
        ⟨(some 37), (.mv (.t 0)), none⟩,
        ⟨(some 38), (.mv (.t 10)), none⟩,
        ⟨(some 39), (.ixS 1 (.t 36) (.t 37)), none⟩,
        ⟨none, (.store 1 (.t 39) (.t 38)), none⟩])
      (.seq (.draw 0 [] (.early 1 ⟨(some 40), (.load false 1 (.t 6)), none⟩
        (.early 1 ⟨(some 41), (.mv (.t 0)), none⟩
        (.early 1 ⟨(some 42), (.bin .add (.t 41) (.k (I 1))), none⟩
        (.early 1 ⟨(some 43), (.mv (.t 1)), none⟩
        (.early 1 ⟨(some 44), (.mv (.t 10)), none⟩
        (.early 1 ⟨(some 45), (.bin .shl (.k (I 1)) (.t 44)), none⟩
        (.early 1 ⟨(some 46), (.bin .andNot (.t 43) (.t 45)), none⟩
        (.step 0 0 ⟨(some 47), (.call (.t 40) [(.t 42), (.t 46)]), none⟩
        (.early 0 ⟨(some 48), (.un .not (.t 47)), none⟩
        .done))))))))))
      (.keep [0, 1, 4, 6, 27, 28, 48] (.cond (.t 48)
        (.seq (.ops [⟨(some 9), (.mv (.k (B false))), none⟩])
        .ret)
        .skip))))
      .skip))))
    (.ops [⟨(some 49), (.bin .add (.t 28) (.k (I 1))), none⟩,
      ⟨(some 28), (.mv (.t 49)), none⟩])))) ks fr H ms := rfl
def c83 : ICode :=
  (.seq (.ops [⟨(some 9), (.mv (.k (B false))), none⟩])
  (.seq (.seq (.ops [⟨(some 11), (.mv (.t 0)), none⟩,
    ⟨(some 12), (.load false 1 (.t 2)), none⟩,
    ⟨(some 13), (.bin .eql (.t 11) (.t 12)), none⟩])
  (.cond (.t 13)
    (.seq (.ops [⟨(some 14), (.load false 1 (.t 3)), none⟩,
      ⟨(some 15), (.load false 1 (.t 4)), none⟩,
      ⟨(some 16), (.call (.t 14) [(.t 15)]), none⟩,
      ⟨(some 9), (.mv (.t 16)), none⟩])
    .ret)
    .skip))
  (.seq (.seq (.ops [⟨(some 17), (.load false 1 (.t 5)), none⟩,
    ⟨(some 18), (.mv (.t 0)), none⟩,
    ⟨(some 19), (.bin .shr (.t 17) (.t 18)), none⟩,
    ⟨(some 20), (.bin .and (.t 19) (.k (I 1))), none⟩,
    ⟨(some 21), (.bin .eql (.t 20) (.k (I 0))), none⟩])
  (.cond (.t 21)
    (.seq (.ops [⟨(some 22), (.load false 1 (.t 6)), none⟩,
      ⟨(some 23), (.mv (.t 0)), none⟩,
      ⟨(some 24), (.bin .add (.t 23) (.k (I 1))), none⟩,
      ⟨(some 25), (.mv (.t 1)), none⟩,
      ⟨(some 26), (.call (.t 22) [(.t 24), (.t 25)]), none⟩,
      ⟨(some 9), (.mv (.t 26)), none⟩])
    .ret)
    .skip))
  (.seq (.seq (.ops [⟨(some 27), (.load false 1 (.t 2)), none⟩,
    ⟨(some 28), (.mv (.k (I 0))), none⟩])
  (.block 0 (.loop c83L0)))
  c83T1))))
theorem w83 {x : Cx} {Q : QT} {ks : List Kont} {fr : Fr} {H : AHeap} {ms : List Nat} : W x Q c83 ks fr H ms = W x Q (.seq (.ops [⟨(some 9), (.mv (.k (B false))), none⟩])
    (.seq (.seq (.ops [⟨(some 11), (.mv (.t 0)), none⟩,
      ⟨(some 12), (.load false 1 (.t 2)), none⟩,
      ⟨(some 13), (.bin .eql (.t 11) (.t 12)), none⟩])
    (.cond (.t 13)
      (.seq (.ops [⟨(some 14), (.load false 1 (.t 3)), none⟩,
        ⟨(some 15), (.load false 1 (.t 4)), none⟩,
        ⟨(some 16), (.call (.t 14) [(.t 15)]), none⟩,
        ⟨(some 9), (.mv (.t 16)), none⟩])
      .ret)
      .skip))
    (.seq (.seq (.ops [⟨(some 17), (.load false 1 (.t 5)), none⟩,
      ⟨(some 18), (.mv (.t 0)), none⟩,
      ⟨(some 19), (.bin .shr (.t 17) (.t 18)), none⟩,
      ⟨(some 20), (.bin .and (.t 19) (.k (I 1))), none⟩,
      ⟨(some 21), (.bin .eql (.t 20) (.k (I 0))), none⟩])
    (.cond (.t 21)
      (.seq (.ops [⟨(some 22), (.load false 1 (.t 6)), none⟩,
        ⟨(some 23), (.mv (.t 0)), none⟩,
        ⟨(some 24), (.bin .add (.t 23) (.k (I 1))), none⟩,
        ⟨(some 25), (.mv (.t 1)), none⟩,
        ⟨(some 26), (.call (.t 22) [(.t 24), (.t 25)]), none⟩,
        ⟨(some 9), (.mv (.t 26)), none⟩])
      .ret)
      .skip))
    (.seq (.seq (.ops [⟨(some 27), (.load false 1 (.t 2)), none⟩,
      ⟨(some 28), (.mv (.k (I 0))), none⟩])
    (.block 0 (.loop c83L0)))
    c83T1)))) ks fr H ms := rfl
def r83 : List IRes := [(.tmp 9)]
theorem t83 : Try.f83.body.bind (trCode Try.prog Try.f83.ntmps) = some (strip c83) := by kernel_rfl
theorem q83 : trRes Try.prog Try.f83.results.toList = some r83 := by kernel_rfl
theorem fn83 : Try.prog.funcs[83]? = some Try.f83 := by kernel_rfl
theorem nn83 : (Try.f83.name == "runtime.NumGoroutine") = false := by kernel_rfl
theorem nt83 : Try.f83.ntmps = 50 := by kernel_rfl
def c82 : ICode :=
  (.seq (.ops [⟨(some 3), (.box (.t 0)), none⟩])
  (.seq (.ops [⟨(some 6), (.load false 1 (.t 1)), none⟩,
    ⟨(some 7), (.mksl 1 8 [(I 0)] (.t 6) (.t 6)), none⟩,
    ⟨(some 4), (.alloc [nilSl]), none⟩,
    ⟨none, (.store 1 (.t 4) (.t 7)), none⟩])
  (.seq (.ops [⟨(some 5), (.alloc [(.val .nilFunc)]), none⟩])
  (.seq (.ops [⟨(some 8), (.mkfn (.func 83) [] [(.t 1), (.t 3), (.t 4), (.t 2), (.t 5)]), none⟩,
    ⟨none, (.store 1 (.t 5) (.t 8)), none⟩])
  (.ops [⟨(some 9), (.load false 1 (.t 5)), none⟩,
    ⟨(some 10), (.load false 1 (.t 2)), none⟩,
    ⟨(some 11), (.call (.t 9) [(.k (I 0)), (.t 10)]), none⟩])))))
theorem w82 {x : Cx} {Q : QT} {ks : List Kont} {fr : Fr} {H : AHeap} {ms : List Nat} : W x Q c82 ks fr H ms = W x Q (.seq (.ops [⟨(some 3), (.box (.t 0)), none⟩])
    (.seq (.ops [⟨(some 6), (.load false 1 (.t 1)), none⟩,
      ⟨(some 7), (.mksl 1 8 [(I 0)] (.t 6) (.t 6)), none⟩,
      ⟨(some 4), (.alloc [nilSl]), none⟩,
      ⟨none, (.store 1 (.t 4) (.t 7)), none⟩])
    (.seq (.ops [⟨(some 5), (.alloc [(.val .nilFunc)]), none⟩])
    (.seq (.ops [⟨(some 8), (.mkfn (.func 83) [] [(.t 1), (.t 3), (.t 4), (.t 2), (.t 5)]), none⟩,
      ⟨none, (.store 1 (.t 5) (.t 8)), none⟩])
    (.ops [⟨(some 9), (.load false 1 (.t 5)), none⟩,
      ⟨(some 10), (.load false 1 (.t 2)), none⟩,
      ⟨(some 11), (.call (.t 9) [(.k (I 0)), (.t 10)]), none⟩]))))) ks fr H ms := rfl
def r82 : List IRes := []
theorem t82 : Try.f82.body.bind (trCode Try.prog Try.f82.ntmps) = some (strip c82) := by kernel_rfl
theorem q82 : trRes Try.prog Try.f82.results.toList = some r82 := by kernel_rfl
theorem fn82 : Try.prog.funcs[82]? = some Try.f82 := by kernel_rfl
theorem nn82 : (Try.f82.name == "runtime.NumGoroutine") = false := by kernel_rfl
theorem nt82 : Try.f82.ntmps = 12 := by kernel_rfl
def c31R0a : ICode :=
  (.ops [⟨(some 7), (.mv (.t 26)), none⟩])
theorem w31R0a {x : Cx} {Q : QT} {ks : List Kont} {fr : Fr} {H : AHeap} {ms : List Nat} : W x Q c31R0a ks fr H ms = W x Q (.ops [⟨(some 7), (.mv (.t 26)), none⟩]) ks fr H ms := rfl
theorem t31R0a : trCode Try.prog 34 (asOf Try.f31 0) = some (strip c31R0a) := by kernel_rfl
def c31R0b : ICode :=
  (.block 1 (.seq (.draw 0 [] (.early 1 ⟨(some 27), (.load false 1 (.t 6)), none⟩
    (.early 1 ⟨(some 28), (.mv (.t 7)), none⟩
    (.early 1 ⟨(some 29), (.call (.k (.fn (.func 62) [] [])) [(.t 27), (.t 28)]), none⟩
    (.early 1 ⟨(some 30), (.load false 1 (.t 3)), none⟩
    (.step 0 0 ⟨(some 31), (.call (.k (.fn (.func 20) [] [])) [(.t 29), (.t 30)]), none⟩
    .done))))))
  (.cond (.t 31)
    (.seq (.ops [⟨(some 32), (.mv (.t 7)), none⟩,
      ⟨(some 33), (.call (.k (.fn (.func 43) [] [])) [(.t 32)]), none⟩,
      ⟨none, (.store 1 (.t 4) (.t 33)), none⟩,
      ⟨none, (.store 1 (.t 5) (.k (I 0))), none⟩])
    .ret)
    .skip)))
theorem w31R0b {x : Cx} {Q : QT} {ks : List Kont} {fr : Fr} {H : AHeap} {ms : List Nat} : W x Q c31R0b ks fr H ms = W x Q (.block 1 (.seq (.draw 0 [] (.early 1 ⟨(some 27), (.load false 1 (.t 6)), none⟩
      (.early 1 ⟨(some 28), (.mv (.t 7)), none⟩
      (.early 1 ⟨(some 29), (.call (.k (.fn (.func 62) [] [])) [(.t 27), (.t 28)]), none⟩
      (.early 1 ⟨(some 30), (.load false 1 (.t 3)), none⟩
      (.step 0 0 ⟨(some 31), (.call (.k (.fn (.func 20) [] [])) [(.t 29), (.t 30)]), none⟩
      .done))))))
    (.cond (.t 31)
      (.seq (.ops [⟨(some 32), (.mv (.t 7)), none⟩,
        ⟨(some 33), (.call (.k (.fn (.func 43) [] [])) [(.t 32)]), none⟩,
        ⟨none, (.store 1 (.t 4) (.t 33)), none⟩,
        ⟨none, (.store 1 (.t 5) (.k (I 0))), none⟩])
      .ret)
      .skip))) ks fr H ms := rfl
theorem t31R0b : trCode Try.prog 34 (bdOf Try.f31 0) = some (strip c31R0b) := by kernel_rfl
def c31T0 : ICode :=
  (.seq (.ops [⟨none, (.store 1 (.t 4) (.k nilSl)), none⟩,
    ⟨none, (.store 1 (.t 5) (.k (I 4))), none⟩])
  .ret)
theorem w31T0 {x : Cx} {Q : QT} {ks : List Kont} {fr : Fr} {H : AHeap} {ms : List Nat} : W x Q c31T0 ks fr H ms = W x Q (.seq (.ops [⟨none, (.store 1 (.t 4) (.k nilSl)), none⟩,
      ⟨none, (.store 1 (.t 5) (.k (I 4))), none⟩])
    .ret) ks fr H ms := rfl
noncomputable def c31 : ICode :=
  (.seq (.ops [⟨(some 3), (.box (.t 1)), none⟩,
    ⟨(some 4), (.alloc [nilSl]), none⟩,
    ⟨(some 5), (.alloc [(I 0)]), none⟩])
  (.seq (.ops [⟨(some 8), (.mv (.t 0)), none⟩,
    ⟨(some 6), (.alloc [nilSl]), none⟩,
    ⟨none, (.store 1 (.t 6) (.t 8)), none⟩])
  (.seq (.seq (.ops [⟨(some 9), (.load false 1 (.t 6)), none⟩,
    ⟨(some 10), (.call (.k (.fn (.func 55) [] [])) [(.t 9)]), none⟩,
    ⟨(some 11), (.un .not (.t 10)), none⟩,
    ⟨(some 12), (.mv (.t 11)), none⟩,
    ⟨(some 13), (.load false 1 (.t 3)), (some (12, false))⟩,
    ⟨(some 14), (.mv (.t 0)), (some (12, false))⟩,
    ⟨(some 15), (.len (.t 14)), (some (12, false))⟩,
    ⟨(some 16), (.call (.k (.fn (.func 59) [] [])) [(.t 13), (.t 15)]), (some (12, false))⟩,
    ⟨(some 17), (.un .not (.t 16)), (some (12, false))⟩,
    ⟨(some 18), (.pick (.t 12) (.k (B true)) (.t 17)), none⟩])
  (.cond (.t 18)
    (.seq (.ops [⟨none, (.store 1 (.t 4) (.k nilSl)), none⟩,
      ⟨none, (.store 1 (.t 5) (.k (I 2))), none⟩])
    .ret)
    .skip))
  (.seq (.seq (.ops [⟨(some 19), (.mv (.t 0)), none⟩,
    ⟨(some 20), (.len (.t 19)), none⟩,
    ⟨(some 21), (.mv (.t 0)), none⟩,
    ⟨(some 22), (.len (.t 21)), none⟩,
    ⟨(some 23), (.bin .shl (.k (I 1)) (.t 22)), none⟩,
    ⟨(some 24), (.bin .sub (.t 23) (.k (I 1))), none⟩,
    ⟨(some 25), (.call (.k (.fn (.func 63) [] [])) [(.t 20), (.t 24)]), none⟩])
  (.block 0 (.range (.t 25) [26] (asOf Try.f31 0) (bdOf Try.f31 0))))
  c31T0))))
theorem w31 {x : Cx} {Q : QT} {ks : List Kont} {fr : Fr} {H : AHeap} {ms : List Nat} : W x Q c31 ks fr H ms = W x Q (.seq (.ops [⟨(some 3), (.box (.t 1)), none⟩,
      ⟨(some 4), (.alloc [nilSl]), none⟩,
      ⟨(some 5), (.alloc [(I 0)]), none⟩])
    (.seq (.ops [⟨(some 8), (.mv (.t 0)), none⟩,
      ⟨(some 6), (.alloc [nilSl]), none⟩,
      ⟨none, (.store 1 (.t 6) (.t 8)), none⟩])
    (.seq (.seq (.ops [⟨(some 9), (.load false 1 (.t 6)), none⟩,
      ⟨(some 10), (.call (.k (.fn (.func 55) [] [])) [(.t 9)]), none⟩,
      ⟨(some 11), (.un .not (.t 10)), none⟩,
      ⟨(some 12), (.mv (.t 11)), none⟩,
      ⟨(some 13), (.load false 1 (.t 3)), (some (12, false))⟩,
      ⟨(some 14), (.mv (.t 0)), (some (12, false))⟩,
      ⟨(some 15), (.len (.t 14)), (some (12, false))⟩,
      ⟨(some 16), (.call (.k (.fn (.func 59) [] [])) [(.t 13), (.t 15)]), (some (12, false))⟩,
      ⟨(some 17), (.un .not (.t 16)), (some (12, false))⟩,
      ⟨(some 18), (.pick (.t 12) (.k (B true)) (.t 17)), none⟩])
    (.cond (.t 18)
      (.seq (.ops [⟨none, (.store 1 (.t 4) (.k nilSl)), none⟩,
        ⟨none, (.store 1 (.t 5) (.k (I 2))), none⟩])
      .ret)
      .skip))
    (.seq (.seq (.ops [⟨(some 19), (.mv (.t 0)), none⟩,
      ⟨(some 20), (.len (.t 19)), none⟩,
      ⟨(some 21), (.mv (.t 0)), none⟩,
      ⟨(some 22), (.len (.t 21)), none⟩,
      ⟨(some 23), (.bin .shl (.k (I 1)) (.t 22)), none⟩,
      ⟨(some 24), (.bin .sub (.t 23) (.k (I 1))), none⟩,
      ⟨(some 25), (.call (.k (.fn (.func 63) [] [])) [(.t 20), (.t 24)]), none⟩])
    (.block 0 (.range (.t 25) [26] (asOf Try.f31 0) (bdOf Try.f31 0))))
    c31T0)))) ks fr H ms := rfl
def r31 : List IRes := [(.cell false 1 4), (.cell false 1 5)]
theorem t31 : Try.f31.body.bind (trCode Try.prog Try.f31.ntmps) = some (strip c31) := by kernel_rfl
theorem q31 : trRes Try.prog Try.f31.results.toList = some r31 := by kernel_rfl
theorem fn31 : Try.prog.funcs[31]? = some Try.f31 := by kernel_rfl
theorem nn31 : (Try.f31.name == "runtime.NumGoroutine") = false := by kernel_rfl
theorem nt31 : Try.f31.ntmps = 34 := by kernel_rfl
def c32T4 : ICode :=
  (.keep [5] (.seq (.ops [⟨(some 55), (.mv (.t 5)), none⟩,
    ⟨(some 4), (.mv (.t 55)), none⟩])
  .ret))
theorem w32T4 {x : Cx} {Q : QT} {ks : List Kont} {fr : Fr} {H : AHeap} {ms : List Nat} : W x Q c32T4 ks fr H ms = W x Q (.keep [5] (.seq (.ops [⟨(some 55), (.mv (.t 5)), none⟩,
      ⟨(some 4), (.mv (.t 55)), none⟩])
    .ret)) ks fr H ms := rfl
def c32T3 : ICode :=
  (.keep [0, 5, 6, 13, 14, 15] (.ops [⟨(some 54), (.bin .add (.t 15) (.k (I 1))), none⟩,
    ⟨(some 15), (.mv (.t 54)), none⟩]))
theorem w32T3 {x : Cx} {Q : QT} {ks : List Kont} {fr : Fr} {H : AHeap} {ms : List Nat} : W x Q c32T3 ks fr H ms = W x Q (.keep [0, 5, 6, 13, 14, 15] (.ops [⟨(some 54), (.bin .add (.t 15) (.k (I 1))), none⟩,
      ⟨(some 15), (.mv (.t 54)), none⟩])) ks fr H ms := rfl
def c32T2 : ICode :=
  (.keep [0, 5, 6, 8, 13, 14, 15] (.ops [⟨(some 47), (.mv (.t 6)), none⟩,
    ⟨(some 48), (.mv (.t 5)), none⟩,
    ⟨(some 49), (.mv (.t 8)), none⟩,
    ⟨(some 50), (.ixS 1 (.t 48) (.t 49)), none⟩,
    ⟨(some 51), (.load false 1 (.t 50)), none⟩,
    ⟨(some 52), (.bin .shl (.k (I 1)) (.t 51)), none⟩,
    ⟨(some 53), (.bin .or (.t 47) (.t 52)), none⟩,
    ⟨(some 6), (.mv (.t 53)), none⟩]))
theorem w32T2 {x : Cx} {Q : QT} {ks : List Kont} {fr : Fr} {H : AHeap} {ms : List Nat} : W x Q c32T2 ks fr H ms = W x Q (.keep [0, 5, 6, 8, 13, 14, 15] (.ops [⟨(some 47), (.mv (.t 6)), none⟩,
      ⟨(some 48), (.mv (.t 5)), none⟩,
      ⟨(some 49), (.mv (.t 8)), none⟩,
      ⟨(some 50), (.ixS 1 (.t 48) (.t 49)), none⟩,
      ⟨(some 51), (.load false 1 (.t 50)), none⟩,
      ⟨(some 52), (.bin .shl (.k (I 1)) (.t 51)), none⟩,
      ⟨(some 53), (.bin .or (.t 47) (.t 52)), none⟩,
      ⟨(some 6), (.mv (.t 53)), none⟩])) ks fr H ms := rfl
/- live: [0, 5, 6, 8, 9, 13, 14, 15] -/
def c32L1 : ICode :=
  (.seq (.seq (.ops [⟨(some 22), (.mv (.t 9)), none⟩,
    ⟨(some 23), (.bin .geq (.t 22) (.k (I 0))), none⟩])
  (.cond (.t 23)
    .skip
    (.exit 2)))
  (.seq (.block 3 (.seq (.ops [⟨(some 26), (.mv (.t 6)), none⟩,
    ⟨(some 27), (.mv (.t 0)), none⟩,
    ⟨(some 28), (.mv (.t 8)), none⟩,
    ⟨(some 29), (.ixS 1 (.t 27) (.t 28)), none⟩,
    ⟨(some 30), (.load false 1 (.t 29)), none⟩,
    ⟨(some 31), (.mv (.t 9)), none⟩,
    ⟨(some 32), (.ixS 1 (.t 30) (.t 31)), none⟩,
    ⟨(some 33), (.load false 1 (.t 32)), none⟩,
    ⟨(some 34), (.bin .shr (.t 26) (.t 33)), none⟩,
    ⟨(some 35), (.bin .and (.t 34) (.k (I 1))), none⟩,
    ⟨(some 36), (.bin .eql (.t 35) (.k (I 0))), none⟩])
  (.cond (.t 36)
    (.ops [⟨(some 37), (.mv (.t 5)), none⟩,
      ⟨(some 38), (.mv (.t 8)), none⟩,
      ⟨(some 39), (.mv (.t 0)), none⟩,
      ⟨(some 40), (.mv (.t 8)), none⟩,
      ⟨(some 41), (.ixS 1 (.t 39) (.t 40)), none⟩,
      ⟨(some 42), (.load false 1 (.t 41)), none⟩,
      ⟨(some 43), (.mv (.t 9)), none⟩,
      ⟨(some 44), (.ixS 1 (.t 42) (.t 43)), none⟩,
      ⟨(some 45), (.load false 1 (.t 44)), none⟩,
      ⟨(some 46), (.ixS 1 (.t 37) (.t 38)), none⟩,
      ⟨none, (.store 1 (.t 46) (.t 45)), none⟩])
    .skip)))
  (.ops [⟨(some 24), (.mv (.t 9)), none⟩,
    ⟨(some 25), (.bin .sub (.t 24) (.k (I 1))), none⟩,
    ⟨(some 9), (.mv (.t 25)), none⟩])))
theorem w32L1 {x : Cx} {Q : QT} {ks : List Kont} {fr : Fr} {H : AHeap} {ms : List Nat} : W x Q c32L1 ks fr H ms = W x Q (.seq (.seq (.ops [⟨(some 22), (.mv (.t 9)), none⟩,
      ⟨(some 23), (.bin .geq (.t 22) (.k (I 0))), none⟩])
    (.cond (.t 23)
      .skip
      (.exit 2)))
    (.seq (.block 3 (.seq (.ops [⟨(some 26), (.mv (.t 6)), none⟩,
      ⟨(some 27), (.mv (.t 0)), none⟩,
      ⟨(some 28), (.mv (.t 8)), none⟩,
      ⟨(some 29), (.ixS 1 (.t 27) (.t 28)), none⟩,
      ⟨(some 30), (.load false 1 (.t 29)), none⟩,
      ⟨(some 31), (.mv (.t 9)), none⟩,
      ⟨(some 32), (.ixS 1 (.t 30) (.t 31)), none⟩,
      ⟨(some 33), (.load false 1 (.t 32)), none⟩,
      ⟨(some 34), (.bin .shr (.t 26) (.t 33)), none⟩,
      ⟨(some 35), (.bin .and (.t 34) (.k (I 1))), none⟩,
      ⟨(some 36), (.bin .eql (.t 35) (.k (I 0))), none⟩])
    (.cond (.t 36)
      (.ops [⟨(some 37), (.mv (.t 5)), none⟩,
        ⟨(some 38), (.mv (.t 8)), none⟩,
        ⟨(some 39), (.mv (.t 0)), none⟩,
        ⟨(some 40), (.mv (.t 8)), none⟩,
        ⟨(some 41), (.ixS 1 (.t 39) (.t 40)), none⟩,
        ⟨(some 42), (.load false 1 (.t 41)), none⟩,
        ⟨(some 43), (.mv (.t 9)), none⟩,
        ⟨(some 44), (.ixS 1 (.t 42) (.t 43)), none⟩,
        ⟨(some 45), (.load false 1 (.t 44)), none⟩,
        ⟨(some 46), (.ixS 1 (.t 37) (.t 38)), none⟩,
        ⟨none, (.store 1 (.t 46) (.t 45)), none⟩])
      .skip)))
    (.ops [⟨(some 24), (.mv (.t 9)), none⟩,
      ⟨(some 25), (.bin .sub (.t 24) (.k (I 1))), none⟩,
      ⟨(some 9), (.mv (.t 25)), none⟩]))) ks fr H ms := rfl
/- live: [0, 5, 6, 13, 14, 15] -/
def c32L0 : ICode :=
  (.seq (.ops [⟨(some 16), (.bin .lss (.t 15) (.t 14)), none⟩])
  (.seq (.cond (.t 16)
    .skip
    (.exit 0))
  (.seq (.block 1 (.seq (.ops [⟨(some 17), (.ixS 1 (.t 13) (.t 15)), none⟩,
    ⟨(some 18), (.load false 1 (.t 17)), none⟩,
    ⟨(some 8), (.mv (.t 18)), none⟩])
  (.seq (.seq (.ops [⟨(some 19), (.mv (.t 0)), none⟩,
    ⟨(some 20), (.len (.t 19)), none⟩,
    ⟨(some 21), (.bin .sub (.t 20) (.k (I 1))), none⟩,
    ⟨(some 9), (.mv (.t 21)), none⟩])
  (.block 2 (.loop c32L1)))
  c32T2)))
  c32T3)))
theorem w32L0 {x : Cx} {Q : QT} {ks : List Kont} {fr : Fr} {H : AHeap} {ms : List Nat} : W x Q c32L0 ks fr H ms = W x Q (.seq (.ops [⟨(some 16), (.bin .lss (.t 15) (.t 14)), none⟩])
    (.seq (.cond (.t 16)
      .skip
      (.exit 0))
    (.seq (.block 1 (.seq (.ops [⟨(some 17), (.ixS 1 (.t 13) (.t 15)), none⟩,
      ⟨(some 18), (.load false 1 (.t 17)), none⟩,
      ⟨(some 8), (.mv (.t 18)), none⟩])
    (.seq (.seq (.ops [⟨(some 19), (.mv (.t 0)), none⟩,
      ⟨(some 20), (.len (.t 19)), none⟩,
      ⟨(some 21), (.bin .sub (.t 20) (.k (I 1))), none⟩,
      ⟨(some 9), (.mv (.t 21)), none⟩])
    (.block 2 (.loop c32L1)))
    c32T2)))
    c32T3))) ks fr H ms := rfl
def c32 : ICode :=
  (.seq (.ops [⟨(some 4), (.mv (.k nilSl)), none⟩])
  (.seq (.ops [⟨(some 10), (.mv (.t 0)), none⟩,
    ⟨(some 11), (.len (.t 10)), none⟩,
    ⟨(some 12), (.mksl 1 8 [(I 0)] (.t 11) (.t 11)), none⟩,
    ⟨(some 5), (.mv (.t 12)), none⟩])
  (.seq (.ops [⟨(some 6), (.mv (.k (I 0))), none⟩])
  (.seq (.seq (.ops [⟨(some 13), (.mv (.t 1)), none⟩,
    ⟨(some 14), (.len (.t 13)), none⟩,
    ⟨(some 15), (.mv (.k (I 0))), none⟩])
  (.block 0 (.loop c32L0)))
  c32T4))))
theorem w32 {x : Cx} {Q : QT} {ks : List Kont} {fr : Fr} {H : AHeap} {ms : List Nat} : W x Q c32 ks fr H ms = W x Q (.seq (.ops [⟨(some 4), (.mv (.k nilSl)), none⟩])
    (.seq (.ops [⟨(some 10), (.mv (.t 0)), none⟩,
      ⟨(some 11), (.len (.t 10)), none⟩,
      ⟨(some 12), (.mksl 1 8 [(I 0)] (.t 11) (.t 11)), none⟩,
      ⟨(some 5), (.mv (.t 12)), none⟩])
    (.seq (.ops [⟨(some 6), (.mv (.k (I 0))), none⟩])
    (.seq (.seq (.ops [⟨(some 13), (.mv (.t 1)), none⟩,
      ⟨(some 14), (.len (.t 13)), none⟩,
      ⟨(some 15), (.mv (.k (I 0))), none⟩])
    (.block 0 (.loop c32L0)))
    c32T4)))) ks fr H ms := rfl
def r32 : List IRes := [(.tmp 4)]
theorem t32 : Try.f32.body.bind (trCode Try.prog Try.f32.ntmps) = some (strip c32) := by kernel_rfl
theorem q32 : trRes Try.prog Try.f32.results.toList = some r32 := by kernel_rfl
theorem fn32 : Try.prog.funcs[32]? = some Try.f32 := by kernel_rfl
theorem nn32 : (Try.f32.name == "runtime.NumGoroutine") = false := by kernel_rfl
theorem nt32 : Try.f32.ntmps = 56 := by kernel_rfl
def c64T4 : ICode :=
  (.keep [5] (.seq (.ops [⟨(some 49), (.mv (.t 5)), none⟩,
    ⟨(some 4), (.mv (.t 49)), none⟩])
  .ret))
theorem w64T4 {x : Cx} {Q : QT} {ks : List Kont} {fr : Fr} {H : AHeap} {ms : List Nat} : W x Q c64T4 ks fr H ms = W x Q (.keep [5] (.seq (.ops [⟨(some 49), (.mv (.t 5)), none⟩,
      ⟨(some 4), (.mv (.t 49)), none⟩])
    .ret)) ks fr H ms := rfl
def c64T3 : ICode :=
  (.keep [0, 1, 5, 16, 17] (.ops [⟨(some 48), (.bin .add (.t 17) (.k (I 1))), none⟩,
    ⟨(some 17), (.mv (.t 48)), none⟩]))
theorem w64T3 {x : Cx} {Q : QT} {ks : List Kont} {fr : Fr} {H : AHeap} {ms : List Nat} : W x Q c64T3 ks fr H ms = W x Q (.keep [0, 1, 5, 16, 17] (.ops [⟨(some 48), (.bin .add (.t 17) (.k (I 1))), none⟩,
      ⟨(some 17), (.mv (.t 48)), none⟩])) ks fr H ms := rfl
def c64T2 : ICode :=
  (.keep [0, 1, 5, 6, 7, 16, 17] (.seq (.ops [⟨(some 33), (.mv (.t 7)), none⟩,
    ⟨(some 34), (.un .not (.t 33)), none⟩])
  (.cond (.t 34)
    (.ops [⟨(some 35), (.mv (.t 5)), none⟩,
      ⟨(some 36), (.mv (.t 0)), none⟩,
      ⟨(some 37), (.mv (.t 1)), none⟩,
      ⟨(some 38), (.mv (.t 1)), none⟩,
      ⟨(some 39), (.len (.t 38)), none⟩,
      ⟨(some 40), (.mv (.t 1)), none⟩,
      ⟨(some 41), (.len (.t 40)), none⟩,
      ⟨(some 42), (.slS 1 (.t 37) none (some (.t 39)) (some (.t 41))), none⟩,
      ⟨(some 43), (.mv (.t 6)), none⟩,
      ⟨(some 44), (.bslice 1 1 [(I 0)] [(0, 1, (.t 43))]), none⟩,
      ⟨(some 45), (.append 1 8 (.t 42) (.t 44)), none⟩,
      ⟨(some 46), (.call (.k (.fn (.func 64) [] [])) [(.t 36), (.t 45)]), none⟩,
      ⟨(some 47), (.append 1 24 (.t 35) (.t 46)), none⟩,
      ⟨(some 5), (.mv (.t 47)), none⟩])
    .skip)))
theorem w64T2 {x : Cx} {Q : QT} {ks : List Kont} {fr : Fr} {H : AHeap} {ms : List Nat} : W x Q c64T2 ks fr H ms = W x Q (.keep [0, 1, 5, 6, 7, 16, 17] (.seq (.ops [⟨(some 33), (.mv (.t 7)), none⟩,
      ⟨(some 34), (.un .not (.t 33)), none⟩])
    (.cond (.t 34)
      (.ops [⟨(some 35), (.mv (.t 5)), none⟩,
        ⟨(some 36), (.mv (.t 0)), none⟩,
        ⟨(some 37), (.mv (.t 1)), none⟩,
        ⟨(some 38), (.mv (.t 1)), none⟩,
        ⟨(some 39), (.len (.t 38)), none⟩,
        ⟨(some 40), (.mv (.t 1)), none⟩,
        ⟨(some 41), (.len (.t 40)), none⟩,
        ⟨(some 42), (.slS 1 (.t 37) none (some (.t 39)) (some (.t 41))), none⟩,
        ⟨(some 43), (.mv (.t 6)), none⟩,
        ⟨(some 44), (.bslice 1 1 [(I 0)] [(0, 1, (.t 43))]), none⟩,
        ⟨(some 45), (.append 1 8 (.t 42) (.t 44)), none⟩,
        ⟨(some 46), (.call (.k (.fn (.func 64) [] [])) [(.t 36), (.t 45)]), none⟩,
        ⟨(some 47), (.append 1 24 (.t 35) (.t 46)), none⟩,
        ⟨(some 5), (.mv (.t 47)), none⟩])
      .skip))) ks fr H ms := rfl
/- live: [0, 1, 5, 6, 7, 16, 17, 20, 21, 22] -/
def c64L1 : ICode :=
  (.seq (.ops [⟨(some 23), (.bin .lss (.t 22) (.t 21)), none⟩])
  (.seq (.cond (.t 23)
    .skip
    (.exit 2))
  (.seq (.block 3 (.seq (.ops [⟨(some 24), (.ixS 1 (.t 20) (.t 22)), none⟩,
    ⟨(some 25), (.load false 1 (.t 24)), none⟩,
    ⟨(some 9), (.mv (.t 25)), none⟩])
  (.ops [⟨(some 26), (.mv (.t 7)), none⟩,
    ⟨(some 27), (.mv (.t 26)), none⟩,
    ⟨(some 28), (.mv (.t 6)), (some (27, false))⟩,
    ⟨(some 29), (.mv (.t 9)), (some (27, false))⟩,
    ⟨(some 30), (.bin .eql (.t 28) (.t 29)), (some (27, false))⟩,
    ⟨(some 31), (.pick (.t 27) (.k (B true)) (.t 30)), none⟩,
    ⟨(some 7), (.mv (.t 31)), none⟩])))
  (.ops [⟨(some 32), (.bin .add (.t 22) (.k (I 1))), none⟩,
    ⟨(some 22), (.mv (.t 32)), none⟩]))))
theorem w64L1 {x : Cx} {Q : QT} {ks : List Kont} {fr : Fr} {H : AHeap} {ms : List Nat} : W x Q c64L1 ks fr H ms = W x Q (.seq (.ops [⟨(some 23), (.bin .lss (.t 22) (.t 21)), none⟩])
    (.seq (.cond (.t 23)
      .skip
      (.exit 2))
    (.seq (.block 3 (.seq (.ops [⟨(some 24), (.ixS 1 (.t 20) (.t 22)), none⟩,
      ⟨(some 25), (.load false 1 (.t 24)), none⟩,
      ⟨(some 9), (.mv (.t 25)), none⟩])
    (.ops [⟨(some 26), (.mv (.t 7)), none⟩,
      ⟨(some 27), (.mv (.t 26)), none⟩,
      ⟨(some 28), (.mv (.t 6)), (some (27, false))⟩,
      ⟨(some 29), (.mv (.t 9)), (some (27, false))⟩,
      ⟨(some 30), (.bin .eql (.t 28) (.t 29)), (some (27, false))⟩,
      ⟨(some 31), (.pick (.t 27) (.k (B true)) (.t 30)), none⟩,
      ⟨(some 7), (.mv (.t 31)), none⟩])))
    (.ops [⟨(some 32), (.bin .add (.t 22) (.k (I 1))), none⟩,
      ⟨(some 22), (.mv (.t 32)), none⟩])))) ks fr H ms := rfl
/- live: [0, 1, 5, 16, 17] -/
def c64L0 : ICode :=
  (.seq (.ops [⟨(some 18), (.bin .lss (.t 17) (.t 16)), none⟩])
  (.seq (.cond (.t 18)
    .skip
    (.exit 0))
  (.seq (.block 1 (.seq (.ops [⟨(some 19), (.mv (.t 17)), none⟩,
    ⟨(some 6), (.mv (.t 19)), none⟩])
  (.seq (.ops [⟨(some 7), (.mv (.k (B false))), none⟩])
  (.seq (.seq (.ops [⟨(some 20), (.mv (.t 1)), none⟩,
    ⟨(some 21), (.len (.t 20)), none⟩,
    ⟨(some 22), (.mv (.k (I 0))), none⟩])
  (.block 2 (.loop c64L1)))
  c64T2))))
  c64T3)))
theorem w64L0 {x : Cx} {Q : QT} {ks : List Kont} {fr : Fr} {H : AHeap} {ms : List Nat} : W x Q c64L0 ks fr H ms = W x Q (.seq (.ops [⟨(some 18), (.bin .lss (.t 17) (.t 16)), none⟩])
    (.seq (.cond (.t 18)
      .skip
      (.exit 0))
    (.seq (.block 1 (.seq (.ops [⟨(some 19), (.mv (.t 17)), none⟩,
      ⟨(some 6), (.mv (.t 19)), none⟩])
    (.seq (.ops [⟨(some 7), (.mv (.k (B false))), none⟩])
    (.seq (.seq (.ops [⟨(some 20), (.mv (.t 1)), none⟩,
      ⟨(some 21), (.len (.t 20)), none⟩,
      ⟨(some 22), (.mv (.k (I 0))), none⟩])
    (.block 2 (.loop c64L1)))
    c64T2))))
    c64T3))) ks fr H ms := rfl
def c64 : ICode :=
  (.seq (.ops [⟨(some 4), (.mv (.k nilSl)), none⟩])
  (.seq (.seq (.ops [⟨(some 10), (.mv (.t 1)), none⟩,
    ⟨(some 11), (.len (.t 10)), none⟩,
    ⟨(some 12), (.mv (.t 0)), none⟩,
    ⟨(some 13), (.bin .eql (.t 11) (.t 12)), none⟩])
  (.cond (.t 13)
    (.seq (.ops [⟨(some 14), (.mv (.t 1)), none⟩,
      ⟨(some 15), (.bslice 1 1 [nilSl] [(0, 1, (.t 14))]), none⟩,
      ⟨(some 4), (.mv (.t 15)), none⟩])
    .ret)
    .skip))
  (.seq (.ops [⟨(some 5), (.mv (.k nilSl)), none⟩])
  (.seq (.seq (.ops [⟨(some 16), (.mv (.t 0)), none⟩,
    ⟨(some 17), (.mv (.k (I 0))), none⟩])
  (.block 0 (.loop c64L0)))
  c64T4))))
theorem w64 {x : Cx} {Q : QT} {ks : List Kont} {fr : Fr} {H : AHeap} {ms : List Nat} : W x Q c64 ks fr H ms = W x Q (.seq (.ops [⟨(some 4), (.mv (.k nilSl)), none⟩])
    (.seq (.seq (.ops [⟨(some 10), (.mv (.t 1)), none⟩,
      ⟨(some 11), (.len (.t 10)), none⟩,
      ⟨(some 12), (.mv (.t 0)), none⟩,
      ⟨(some 13), (.bin .eql (.t 11) (.t 12)), none⟩])
    (.cond (.t 13)
      (.seq (.ops [⟨(some 14), (.mv (.t 1)), none⟩,
        ⟨(some 15), (.bslice 1 1 [nilSl] [(0, 1, (.t 14))]), none⟩,
        ⟨(some 4), (.mv (.t 15)), none⟩])
      .ret)
      .skip))
    (.seq (.ops [⟨(some 5), (.mv (.k nilSl)), none⟩])
    (.seq (.seq (.ops [⟨(some 16), (.mv (.t 0)), none⟩,
      ⟨(some 17), (.mv (.k (I 0))), none⟩])
    (.block 0 (.loop c64L0)))
    c64T4)))) ks fr H ms := rfl
def r64 : List IRes := [(.tmp 4)]
theorem t64 : Try.f64.body.bind (trCode Try.prog Try.f64.ntmps) = some (strip c64) := by kernel_rfl
theorem q64 : trRes Try.prog Try.f64.results.toList = some r64 := by kernel_rfl
theorem fn64 : Try.prog.funcs[64]? = some Try.f64 := by kernel_rfl
theorem nn64 : (Try.f64.name == "runtime.NumGoroutine") = false := by kernel_rfl
theorem nt64 : Try.f64.ntmps = 50 := by kernel_rfl
def c33T4 : ICode :=
  (.keep [] (.seq (.ops [⟨(some 4), (.mv (.k nilSl)), none⟩,
    ⟨(some 5), (.mv (.k (I 4))), none⟩])
  .ret))
theorem w33T4 {x : Cx} {Q : QT} {ks : List Kont} {fr : Fr} {H : AHeap} {ms : List Nat} : W x Q c33T4 ks fr H ms = W x Q (.keep [] (.seq (.ops [⟨(some 4), (.mv (.k nilSl)), none⟩,
      ⟨(some 5), (.mv (.k (I 4))), none⟩])
    .ret)) ks fr H ms := rfl
def c33T3 : ICode :=
  (.keep [0, 1, 13, 14, 15] (.ops [⟨(some 40), (.bin .add (.t 15) (.k (I 1))), none⟩,
    ⟨(some 15), (.mv (.t 40)), none⟩]))
theorem w33T3 {x : Cx} {Q : QT} {ks : List Kont} {fr : Fr} {H : AHeap} {ms : List Nat} : W x Q c33T3 ks fr H ms = W x Q (.keep [0, 1, 13, 14, 15] (.ops [⟨(some 40), (.bin .add (.t 15) (.k (I 1))), none⟩,
      ⟨(some 15), (.mv (.t 40)), none⟩])) ks fr H ms := rfl
def c33T2 : ICode :=
  (.keep [0, 1, 7, 8, 13, 14, 15] (.seq (.ops [⟨(some 38), (.mv (.t 8)), none⟩])
  (.cond (.t 38)
    (.seq (.ops [⟨(some 39), (.mv (.t 7)), none⟩,
      ⟨(some 4), (.mv (.t 39)), none⟩,
      ⟨(some 5), (.mv (.k (I 0))), none⟩])
    .ret)
    .skip)))
theorem w33T2 {x : Cx} {Q : QT} {ks : List Kont} {fr : Fr} {H : AHeap} {ms : List Nat} : W x Q c33T2 ks fr H ms = W x Q (.keep [0, 1, 7, 8, 13, 14, 15] (.seq (.ops [⟨(some 38), (.mv (.t 8)), none⟩])
    (.cond (.t 38)
      (.seq (.ops [⟨(some 39), (.mv (.t 7)), none⟩,
        ⟨(some 4), (.mv (.t 39)), none⟩,
        ⟨(some 5), (.mv (.k (I 0))), none⟩])
      .ret)
      .skip))) ks fr H ms := rfl
/- live: [0, 1, 7, 8, 13, 14, 15, 21, 22, 23] -/
def c33L1 : ICode :=
  (.seq (.ops [⟨(some 24), (.bin .lss (.t 23) (.t 22)), none⟩])
  (.seq (.cond (.t 24)
    .skip
    (.exit 2))
  (.seq (.block 3 (.seq (.ops [⟨(some 25), (.mv (.t 23)), none⟩,
    ⟨(some 26), (.ixS 1 (.t 21) (.t 23)), none⟩,
    ⟨(some 27), (.load false 1 (.t 26)), none⟩,
    ⟨(some 9), (.mv (.t 25)), none⟩,
    ⟨(some 10), (.mv (.t 27)), none⟩])
  (.ops [⟨(some 28), (.mv (.t 8)), none⟩,
    ⟨(some 29), (.mv (.t 28)), none⟩,
    ⟨(some 30), (.mv (.t 10)), (some (29, true))⟩,
    ⟨(some 31), (.mv (.t 1)), (some (29, true))⟩,
    ⟨(some 32), (.mv (.t 9)), (some (29, true))⟩,
    ⟨(some 33), (.ixS 1 (.t 31) (.t 32)), (some (29, true))⟩,
    ⟨(some 34), (.load false 1 (.t 33)), (some (29, true))⟩,
    ⟨(some 35), (.bin .eql (.t 30) (.t 34)), (some (29, true))⟩,
    ⟨(some 36), (.pick (.t 29) (.t 35) (.k (B false))), none⟩,
    ⟨(some 8), (.mv (.t 36)), none⟩])))
  (.ops [⟨(some 37), (.bin .add (.t 23) (.k (I 1))), none⟩,
    ⟨(some 23), (.mv (.t 37)), none⟩]))))
theorem w33L1 {x : Cx} {Q : QT} {ks : List Kont} {fr : Fr} {H : AHeap} {ms : List Nat} : W x Q c33L1 ks fr H ms = W x Q (.seq (.ops [⟨(some 24), (.bin .lss (.t 23) (.t 22)), none⟩])
    (.seq (.cond (.t 24)
      .skip
      (.exit 2))
    (.seq (.block 3 (.seq (.ops [⟨(some 25), (.mv (.t 23)), none⟩,
      ⟨(some 26), (.ixS 1 (.t 21) (.t 23)), none⟩,
      ⟨(some 27), (.load false 1 (.t 26)), none⟩,
      ⟨(some 9), (.mv (.t 25)), none⟩,
      ⟨(some 10), (.mv (.t 27)), none⟩])
    (.ops [⟨(some 28), (.mv (.t 8)), none⟩,
      ⟨(some 29), (.mv (.t 28)), none⟩,
      ⟨(some 30), (.mv (.t 10)), (some (29, true))⟩,
      ⟨(some 31), (.mv (.t 1)), (some (29, true))⟩,
      ⟨(some 32), (.mv (.t 9)), (some (29, true))⟩,
      ⟨(some 33), (.ixS 1 (.t 31) (.t 32)), (some (29, true))⟩,
      ⟨(some 34), (.load false 1 (.t 33)), (some (29, true))⟩,
      ⟨(some 35), (.bin .eql (.t 30) (.t 34)), (some (29, true))⟩,
      ⟨(some 36), (.pick (.t 29) (.t 35) (.k (B false))), none⟩,
      ⟨(some 8), (.mv (.t 36)), none⟩])))
    (.ops [⟨(some 37), (.bin .add (.t 23) (.k (I 1))), none⟩,
      ⟨(some 23), (.mv (.t 37)), none⟩])))) ks fr H ms := rfl
/- live: [0, 1, 13, 14, 15] -/
def c33L0 : ICode :=
  (.seq (.ops [⟨(some 16), (.bin .lss (.t 15) (.t 14)), none⟩])
  (.seq (.cond (.t 16)
    .skip
    (.exit 0))
  (.seq (.block 1 (.seq (.ops [⟨(some 17), (.ixS 1 (.t 13) (.t 15)), none⟩,
    ⟨(some 18), (.load false 1 (.t 17)), none⟩,
    ⟨(some 7), (.mv (.t 18)), none⟩])
  (.seq (.ops [⟨(some 8), (.mv (.k (B true))), none⟩])
  (.seq (.seq (.ops [⟨(some 19), (.mv (.t 0)), none⟩,
    ⟨(some 20), (.mv (.t 7)), none⟩,
    ⟨(some 21), (.call (.k (.fn (.func 32) [] [])) [(.t 19), (.t 20)]), none⟩,
    ⟨(some 22), (.len (.t 21)), none⟩,
    ⟨(some 23), (.mv (.k (I 0))), none⟩])
  (.block 2 (.loop c33L1)))
  c33T2))))
  c33T3)))
theorem w33L0 {x : Cx} {Q : QT} {ks : List Kont} {fr : Fr} {H : AHeap} {ms : List Nat} : W x Q c33L0 ks fr H ms = W x Q (.seq (.ops [⟨(some 16), (.bin .lss (.t 15) (.t 14)), none⟩])
    (.seq (.cond (.t 16)
      .skip
      (.exit 0))
    (.seq (.block 1 (.seq (.ops [⟨(some 17), (.ixS 1 (.t 13) (.t 15)), none⟩,
      ⟨(some 18), (.load false 1 (.t 17)), none⟩,
      ⟨(some 7), (.mv (.t 18)), none⟩])
    (.seq (.ops [⟨(some 8), (.mv (.k (B true))), none⟩])
    (.seq (.seq (.ops [⟨(some 19), (.mv (.t 0)), none⟩,
      ⟨(some 20), (.mv (.t 7)), none⟩,
      ⟨(some 21), (.call (.k (.fn (.func 32) [] [])) [(.t 19), (.t 20)]), none⟩,
      ⟨(some 22), (.len (.t 21)), none⟩,
      ⟨(some 23), (.mv (.k (I 0))), none⟩])
    (.block 2 (.loop c33L1)))
    c33T2))))
    c33T3))) ks fr H ms := rfl
def c33 : ICode :=
  (.seq (.ops [⟨(some 4), (.mv (.k nilSl)), none⟩,
    ⟨(some 5), (.mv (.k (I 0))), none⟩])
  (.seq (.seq (.ops [⟨(some 11), (.mv (.t 0)), none⟩,
    ⟨(some 12), (.len (.t 11)), none⟩,
    ⟨(some 13), (.call (.k (.fn (.func 64) [] [])) [(.t 12), (.k nilSl)]), none⟩,
    ⟨(some 14), (.len (.t 13)), none⟩,
    ⟨(some 15), (.mv (.k (I 0))), none⟩])
  (.block 0 (.loop c33L0)))
  c33T4))
theorem w33 {x : Cx} {Q : QT} {ks : List Kont} {fr : Fr} {H : AHeap} {ms : List Nat} : W x Q c33 ks fr H ms = W x Q (.seq (.ops [⟨(some 4), (.mv (.k nilSl)), none⟩,
      ⟨(some 5), (.mv (.k (I 0))), none⟩])
    (.seq (.seq (.ops [⟨(some 11), (.mv (.t 0)), none⟩,
      ⟨(some 12), (.len (.t 11)), none⟩,
      ⟨(some 13), (.call (.k (.fn (.func 64) [] [])) [(.t 12), (.k nilSl)]), none⟩,
      ⟨(some 14), (.len (.t 13)), none⟩,
      ⟨(some 15), (.mv (.k (I 0))), none⟩])
    (.block 0 (.loop c33L0)))
    c33T4)) ks fr H ms := rfl
def r33 : List IRes := [(.tmp 4), (.tmp 5)]
theorem t33 : Try.f33.body.bind (trCode Try.prog Try.f33.ntmps) = some (strip c33) := by kernel_rfl
theorem q33 : trRes Try.prog Try.f33.results.toList = some r33 := by kernel_rfl
theorem fn33 : Try.prog.funcs[33]? = some Try.f33 := by kernel_rfl
theorem nn33 : (Try.f33.name == "runtime.NumGoroutine") = false := by kernel_rfl
theorem nt33 : Try.f33.ntmps = 41 := by kernel_rfl
def c7T1 : ICode :=
  (.keep [0, 2, 9, 10] (.seq (.ops [⟨(some 64), (.mv (.t 0)), none⟩,
    ⟨(some 65), (.mv (.t 2)), none⟩,
    ⟨(some 66), (.call (.k (.fn (.func 33) [] [])) [(.t 64), (.t 65)]), none⟩,
    ⟨(some 63), (.mv (.t 66)), none⟩,
    ⟨(some 67), (.ext (.t 63) 0), none⟩,
    ⟨(some 68), (.ext (.t 63) 1), none⟩,
    ⟨(some 11), (.mv (.t 67)), none⟩,
    ⟨(some 12), (.mv (.t 68)), none⟩])
  (.seq (.ops [⟨(some 69), (.mv (.t 9)), none⟩,
    ⟨(some 70), (.mv (.t 11)), none⟩,
    ⟨(some 71), (.call (.k (.fn (.func 20) [] [])) [(.t 69), (.t 70)]), none⟩,
    ⟨(some 72), (.mv (.t 71)), none⟩,
    ⟨(some 73), (.mv (.t 10)), (some (72, true))⟩,
    ⟨(some 74), (.mv (.t 12)), (some (72, true))⟩,
    ⟨(some 75), (.bin .eql (.t 73) (.t 74)), (some (72, true))⟩,
    ⟨(some 76), (.pick (.t 72) (.t 75) (.k (B false))), none⟩,
    ⟨(some 77), (.mv (.t 76)), none⟩,
    ⟨(some 78), (.call (.k (.fn (.func 19) [] [])) []), (some (77, true))⟩,
    ⟨(some 79), (.pick (.t 77) (.t 78) (.k (B false))), none⟩,
    ⟨(some 6), (.mv (.t 79)), none⟩])
  .ret)))
theorem w7T1 {x : Cx} {Q : QT} {ks : List Kont} {fr : Fr} {H : AHeap} {ms : List Nat} : W x Q c7T1 ks fr H ms = W x Q (.keep [0, 2, 9, 10] (.seq (.ops [⟨(some 64), (.mv (.t 0)), none⟩,
      ⟨(some 65), (.mv (.t 2)), none⟩,
      ⟨(some 66), (.call (.k (.fn (.func 33) [] [])) [(.t 64), (.t 65)]), none⟩,
      ⟨(some 63), (.mv (.t 66)), none⟩,
      ⟨(some 67), (.ext (.t 63) 0), none⟩,
      ⟨(some 68), (.ext (.t 63) 1), none⟩,
      ⟨(some 11), (.mv (.t 67)), none⟩,
      ⟨(some 12), (.mv (.t 68)), none⟩])
    (.seq (.ops [⟨(some 69), (.mv (.t 9)), none⟩,
      ⟨(some 70), (.mv (.t 11)), none⟩,
      ⟨(some 71), (.call (.k (.fn (.func 20) [] [])) [(.t 69), (.t 70)]), none⟩,
      ⟨(some 72), (.mv (.t 71)), none⟩,
      ⟨(some 73), (.mv (.t 10)), (some (72, true))⟩,
      ⟨(some 74), (.mv (.t 12)), (some (72, true))⟩,
      ⟨(some 75), (.bin .eql (.t 73) (.t 74)), (some (72, true))⟩,
      ⟨(some 76), (.pick (.t 72) (.t 75) (.k (B false))), none⟩,
      ⟨(some 77), (.mv (.t 76)), none⟩,
      ⟨(some 78), (.call (.k (.fn (.func 19) [] [])) []), (some (77, true))⟩,
      ⟨(some 79), (.pick (.t 77) (.t 78) (.k (B false))), none⟩,
      ⟨(some 6), (.mv (.t 79)), none⟩])
    .ret))) ks fr H ms := rfl
def c7T0 : ICode :=
  (.keep [0, 2, 9, 10] (.seq (.seq (.ops [⟨(some 49), (.mv (.t 0)), none⟩,
    ⟨(some 50), (.mv (.t 2)), none⟩,
    ⟨(some 51), (.call (.k (.fn (.func 28) [] [])) [(.t 49), (.t 50)]), none⟩,
    ⟨(some 52), (.un .not (.t 51)), none⟩])
  (.cond (.t 52)
    (.seq (.ops [⟨(some 53), (.mv (.t 9)), none⟩,
      ⟨(some 54), (.len (.t 53)), none⟩,
      ⟨(some 55), (.bin .eql (.t 54) (.k (I 0))), none⟩,
      ⟨(some 56), (.mv (.t 55)), none⟩,
      ⟨(some 57), (.mv (.t 10)), (some (56, true))⟩,
      ⟨(some 58), (.bin .eql (.t 57) (.k (I 2))), (some (56, true))⟩,
      ⟨(some 59), (.pick (.t 56) (.t 58) (.k (B false))), none⟩,
      ⟨(some 60), (.mv (.t 59)), none⟩,
      ⟨(some 61), (.call (.k (.fn (.func 19) [] [])) []), (some (60, true))⟩,
      ⟨(some 62), (.pick (.t 60) (.t 61) (.k (B false))), none⟩,
      ⟨(some 6), (.mv (.t 62)), none⟩])
    .ret)
    .skip))
  c7T1))
theorem w7T0 {x : Cx} {Q : QT} {ks : List Kont} {fr : Fr} {H : AHeap} {ms : List Nat} : W x Q c7T0 ks fr H ms = W x Q (.keep [0, 2, 9, 10] (.seq (.seq (.ops [⟨(some 49), (.mv (.t 0)), none⟩,
      ⟨(some 50), (.mv (.t 2)), none⟩,
      ⟨(some 51), (.call (.k (.fn (.func 28) [] [])) [(.t 49), (.t 50)]), none⟩,
      ⟨(some 52), (.un .not (.t 51)), none⟩])
    (.cond (.t 52)
      (.seq (.ops [⟨(some 53), (.mv (.t 9)), none⟩,
        ⟨(some 54), (.len (.t 53)), none⟩,
        ⟨(some 55), (.bin .eql (.t 54) (.k (I 0))), none⟩,
        ⟨(some 56), (.mv (.t 55)), none⟩,
        ⟨(some 57), (.mv (.t 10)), (some (56, true))⟩,
        ⟨(some 58), (.bin .eql (.t 57) (.k (I 2))), (some (56, true))⟩,
        ⟨(some 59), (.pick (.t 56) (.t 58) (.k (B false))), none⟩,
        ⟨(some 60), (.mv (.t 59)), none⟩,
        ⟨(some 61), (.call (.k (.fn (.func 19) [] [])) []), (some (60, true))⟩,
        ⟨(some 62), (.pick (.t 60) (.t 61) (.k (B false))), none⟩,
        ⟨(some 6), (.mv (.t 62)), none⟩])
      .ret)
      .skip))
    c7T1)) ks fr H ms := rfl
def c7 : ICode :=
  (.seq (.ops [⟨(some 6), (.mv (.k (B false))), none⟩])
  (.seq (.ops [⟨(some 14), (.mv (.t 0)), none⟩,
    ⟨(some 15), (.call (.k (.fn (.func 16) [] [])) [(.t 14)]), none⟩,
    ⟨(some 16), (.mv (.t 1)), none⟩,
    ⟨(some 17), (.call (.k (.fn (.func 27) [] [])) [(.t 16)]), none⟩,
    ⟨(some 18), (.call (.k (.fn (.func 30) [] [])) [(.t 15), (.t 17)]), none⟩,
    ⟨(some 13), (.mv (.t 18)), none⟩,
    ⟨(some 19), (.ext (.t 13) 0), none⟩,
    ⟨(some 20), (.ext (.t 13) 1), none⟩,
    ⟨(some 7), (.mv (.t 19)), none⟩,
    ⟨(some 8), (.mv (.t 20)), none⟩])
  (.seq (.ops [⟨(some 22), (.mv (.t 0)), none⟩,
    ⟨(some 23), (.call (.k (.fn (.func 16) [] [])) [(.t 22)]), none⟩,
    ⟨(some 24), (.mv (.t 2)), none⟩,
    ⟨(some 25), (.call (.k (.fn (.func 27) [] [])) [(.t 24)]), none⟩,
    ⟨(some 26), (.call (.k (.fn (.func 31) [] [])) [(.t 23), (.t 25)]), none⟩,
    ⟨(some 21), (.mv (.t 26)), none⟩,
    ⟨(some 27), (.ext (.t 21) 0), none⟩,
    ⟨(some 28), (.ext (.t 21) 1), none⟩,
    ⟨(some 9), (.mv (.t 27)), none⟩,
    ⟨(some 10), (.mv (.t 28)), none⟩])
  (.seq (.seq (.ops [⟨(some 29), (.mv (.t 0)), none⟩,
    ⟨(some 30), (.mv (.t 1)), none⟩,
    ⟨(some 31), (.call (.k (.fn (.func 28) [] [])) [(.t 29), (.t 30)]), none⟩])
  (.cond (.t 31)
    (.seq (.ops [⟨(some 32), (.mv (.t 7)), none⟩,
      ⟨(some 33), (.mv (.t 0)), none⟩,
      ⟨(some 34), (.mv (.t 1)), none⟩,
      ⟨(some 35), (.call (.k (.fn (.func 32) [] [])) [(.t 33), (.t 34)]), none⟩,
      ⟨(some 36), (.call (.k (.fn (.func 20) [] [])) [(.t 32), (.t 35)]), none⟩,
      ⟨(some 37), (.un .not (.t 36)), none⟩,
      ⟨(some 38), (.mv (.t 37)), none⟩,
      ⟨(some 39), (.mv (.t 8)), (some (38, false))⟩,
      ⟨(some 40), (.bin .neq (.t 39) (.k (I 0))), (some (38, false))⟩,
      ⟨(some 41), (.pick (.t 38) (.k (B true)) (.t 40)), none⟩])
    (.cond (.t 41)
      (.seq (.ops [⟨(some 6), (.mv (.k (B false))), none⟩])
      .ret)
      .skip))
    (.seq (.ops [⟨(some 42), (.mv (.t 7)), none⟩,
      ⟨(some 43), (.len (.t 42)), none⟩,
      ⟨(some 44), (.bin .neq (.t 43) (.k (I 0))), none⟩,
      ⟨(some 45), (.mv (.t 44)), none⟩,
      ⟨(some 46), (.mv (.t 8)), (some (45, false))⟩,
      ⟨(some 47), (.bin .neq (.t 46) (.k (I 2))), (some (45, false))⟩,
      ⟨(some 48), (.pick (.t 45) (.k (B true)) (.t 47)), none⟩])
    (.cond (.t 48)
      (.seq (.ops [⟨(some 6), (.mv (.k (B false))), none⟩])
      .ret)
      .skip))))
  c7T0))))
theorem w7 {x : Cx} {Q : QT} {ks : List Kont} {fr : Fr} {H : AHeap} {ms : List Nat} : W x Q c7 ks fr H ms = W x Q (.seq (.ops [⟨(some 6), (.mv (.k (B false))), none⟩])
    (.seq (.ops [⟨(some 14), (.mv (.t 0)), none⟩,
      ⟨(some 15), (.call (.k (.fn (.func 16) [] [])) [(.t 14)]), none⟩,
      ⟨(some 16), (.mv (.t 1)), none⟩,
      ⟨(some 17), (.call (.k (.fn (.func 27) [] [])) [(.t 16)]), none⟩,
      ⟨(some 18), (.call (.k (.fn (.func 30) [] [])) [(.t 15), (.t 17)]), none⟩,
      ⟨(some 13), (.mv (.t 18)), none⟩,
      ⟨(some 19), (.ext (.t 13) 0), none⟩,
      ⟨(some 20), (.ext (.t 13) 1), none⟩,
      ⟨(some 7), (.mv (.t 19)), none⟩,
      ⟨(some 8), (.mv (.t 20)), none⟩])
    (.seq (.ops [⟨(some 22), (.mv (.t 0)), none⟩,
      ⟨(some 23), (.call (.k (.fn (.func 16) [] [])) [(.t 22)]), none⟩,
      ⟨(some 24), (.mv (.t 2)), none⟩,
      ⟨(some 25), (.call (.k (.fn (.func 27) [] [])) [(.t 24)]), none⟩,
      ⟨(some 26), (.call (.k (.fn (.func 31) [] [])) [(.t 23), (.t 25)]), none⟩,
      ⟨(some 21), (.mv (.t 26)), none⟩,
      ⟨(some 27), (.ext (.t 21) 0), none⟩,
      ⟨(some 28), (.ext (.t 21) 1), none⟩,
      ⟨(some 9), (.mv (.t 27)), none⟩,
      ⟨(some 10), (.mv (.t 28)), none⟩])
    (.seq (.seq (.ops [⟨(some 29), (.mv (.t 0)), none⟩,
      ⟨(some 30), (.mv (.t 1)), none⟩,
      ⟨(some 31), (.call (.k (.fn (.func 28) [] [])) [(.t 29), (.t 30)]), none⟩])
    (.cond (.t 31)
      (.seq (.ops [⟨(some 32), (.mv (.t 7)), none⟩,
        ⟨(some 33), (.mv (.t 0)), none⟩,
        ⟨(some 34), (.mv (.t 1)), none⟩,
        ⟨(some 35), (.call (.k (.fn (.func 32) [] [])) [(.t 33), (.t 34)]), none⟩,
        ⟨(some 36), (.call (.k (.fn (.func 20) [] [])) [(.t 32), (.t 35)]), none⟩,
        ⟨(some 37), (.un .not (.t 36)), none⟩,
        ⟨(some 38), (.mv (.t 37)), none⟩,
        ⟨(some 39), (.mv (.t 8)), (some (38, false))⟩,
        ⟨(some 40), (.bin .neq (.t 39) (.k (I 0))), (some (38, false))⟩,
        ⟨(some 41), (.pick (.t 38) (.k (B true)) (.t 40)), none⟩])
      (.cond (.t 41)
        (.seq (.ops [⟨(some 6), (.mv (.k (B false))), none⟩])
        .ret)
        .skip))
      (.seq (.ops [⟨(some 42), (.mv (.t 7)), none⟩,
        ⟨(some 43), (.len (.t 42)), none⟩,
        ⟨(some 44), (.bin .neq (.t 43) (.k (I 0))), none⟩,
        ⟨(some 45), (.mv (.t 44)), none⟩,
        ⟨(some 46), (.mv (.t 8)), (some (45, false))⟩,
        ⟨(some 47), (.bin .neq (.t 46) (.k (I 2))), (some (45, false))⟩,
        ⟨(some 48), (.pick (.t 45) (.k (B true)) (.t 47)), none⟩])
      (.cond (.t 48)
        (.seq (.ops [⟨(some 6), (.mv (.k (B false))), none⟩])
        .ret)
        .skip))))
    c7T0)))) ks fr H ms := rfl
def r7 : List IRes := [(.tmp 6)]
theorem t7 : Try.f7.body.bind (trCode Try.prog Try.f7.ntmps) = some (strip c7) := by kernel_rfl
theorem q7 : trRes Try.prog Try.f7.results.toList = some r7 := by kernel_rfl
theorem fn7 : Try.prog.funcs[7]? = some Try.f7 := by kernel_rfl
theorem nn7 : (Try.f7.name == "runtime.NumGoroutine") = false := by kernel_rfl
theorem nt7 : Try.f7.ntmps = 80 := by kernel_rfl
end Go.Proofs.Ytkmmngphcodjjaa
