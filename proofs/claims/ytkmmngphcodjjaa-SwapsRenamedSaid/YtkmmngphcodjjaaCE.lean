/- The code of some functions of the program, cleaned: printed by a program of mine, checked here. -/
import Derived.Test.YtkmmngphcodjjaaProg
import Derived.Test.YtkmmngphcodjjaaAS
import Derived.KernelRfl
import Derived.Test.YtkmmngphcodjjaaCB
namespace Go.Proofs.Ytkmmngphcodjjaa
open Go.Abs AVal
def c62T1 : ICode :=
  (.keep [5] (.seq (.ops [⟨(some 37), (.mv (.t 5)), none⟩,
    ⟨(some 4), (.mv (.t 37)), none⟩])
  .ret))
theorem w62T1 {x : Cx} {Q : QT} {ks : List Kont} {fr : Fr} {H : AHeap} {ms : List Nat} : W x Q c62T1 ks fr H ms = W x Q (.keep [5] (.seq (.ops [⟨(some 37), (.mv (.t 5)), none⟩,
      ⟨(some 4), (.mv (.t 37)), none⟩])
    .ret)) ks fr H ms := rfl
/- live: [0, 5, 6, 16, 17, 18] -/
def c62L0 : ICode :=
  (.seq (.ops [⟨(some 19), (.bin .lss (.t 18) (.t 17)), none⟩])
  (.seq (.cond (.t 19)
    .skip
    (.exit 0))
  (.seq (.block 1 (.seq (.ops [⟨(some 20), (.ixS 1 (.t 16) (.t 18)), none⟩,
    ⟨(some 21), (.load false 1 (.t 20)), none⟩,
    ⟨(some 8), (.mv (.t 21)), none⟩])
  (.seq (.ops [⟨(some 22), (.mv (.t 5)), none⟩,
    ⟨(some 23), (.mv (.t 8)), none⟩,
    ⟨(some 24), (.mv (.t 0)), none⟩,
    ⟨(some 25), (.mv (.t 8)), none⟩,
    ⟨(some 26), (.mv (.t 6)), none⟩,
    ⟨(some 27), (.call (.k (.fn (.func 81) [] [])) [(.t 24), (.t 25), (.t 26)]), none⟩,
    ⟨(some 28), (.ixS 1 (.t 22) (.t 23)), none⟩,
    ⟨none, (.store 1 (.t 28) (.t 27)), none⟩])
  (.ops [⟨(some 29), (.mv (.t 6)), none⟩,
    ⟨(some 30), (.mv (.t 5)), none⟩,
    ⟨(some 31), (.mv (.t 8)), none⟩,
    ⟨(some 32), (.ixS 1 (.t 30) (.t 31)), none⟩,
    ⟨(some 33), (.load false 1 (.t 32)), none⟩,
    ⟨(some 34), (.bin .shl (.k (I 1)) (.t 33)), none⟩,
    ⟨(some 35), (.bin .andNot (.t 29) (.t 34)), none⟩,
    ⟨(some 6), (.mv (.t 35)), none⟩]))))
  (.ops [⟨(some 36), (.bin .add (.t 18) (.k (I 1))), none⟩,
    ⟨(some 18), (.mv (.t 36)), none⟩]))))
theorem w62L0 {x : Cx} {Q : QT} {ks : List Kont} {fr : Fr} {H : AHeap} {ms : List Nat} : W x Q c62L0 ks fr H ms = W x Q (.seq (.ops [⟨(some 19), (.bin .lss (.t 18) (.t 17)), none⟩])
    (.seq (.cond (.t 19)
      .skip
      (.exit 0))
    (.seq (.block 1 (.seq (.ops [⟨(some 20), (.ixS 1 (.t 16) (.t 18)), none⟩,
      ⟨(some 21), (.load false 1 (.t 20)), none⟩,
      ⟨(some 8), (.mv (.t 21)), none⟩])
    (.seq (.ops [⟨(some 22), (.mv (.t 5)), none⟩,
      ⟨(some 23), (.mv (.t 8)), none⟩,
      ⟨(some 24), (.mv (.t 0)), none⟩,
      ⟨(some 25), (.mv (.t 8)), none⟩,
      ⟨(some 26), (.mv (.t 6)), none⟩,
      ⟨(some 27), (.call (.k (.fn (.func 81) [] [])) [(.t 24), (.t 25), (.t 26)]), none⟩,
      ⟨(some 28), (.ixS 1 (.t 22) (.t 23)), none⟩,
      ⟨none, (.store 1 (.t 28) (.t 27)), none⟩])
    (.ops [⟨(some 29), (.mv (.t 6)), none⟩,
      ⟨(some 30), (.mv (.t 5)), none⟩,
      ⟨(some 31), (.mv (.t 8)), none⟩,
      ⟨(some 32), (.ixS 1 (.t 30) (.t 31)), none⟩,
      ⟨(some 33), (.load false 1 (.t 32)), none⟩,
      ⟨(some 34), (.bin .shl (.k (I 1)) (.t 33)), none⟩,
      ⟨(some 35), (.bin .andNot (.t 29) (.t 34)), none⟩,
      ⟨(some 6), (.mv (.t 35)), none⟩]))))
    (.ops [⟨(some 36), (.bin .add (.t 18) (.k (I 1))), none⟩,
      ⟨(some 18), (.mv (.t 36)), none⟩])))) ks fr H ms := rfl
def c62 : ICode :=
  (.seq (.ops [⟨(some 4), (.mv (.k nilSl)), none⟩])
  (.seq (.ops [⟨(some 9), (.mv (.t 0)), none⟩,
    ⟨(some 10), (.len (.t 9)), none⟩,
    ⟨(some 11), (.mksl 1 8 [(I 0)] (.t 10) (.t 10)), none⟩,
    ⟨(some 5), (.mv (.t 11)), none⟩])
  (.seq (.ops [⟨(some 12), (.mv (.t 0)), none⟩,
    ⟨(some 13), (.len (.t 12)), none⟩,
    ⟨(some 14), (.bin .shl (.k (I 1)) (.t 13)), none⟩,
    ⟨(some 15), (.bin .sub (.t 14) (.k (I 1))), none⟩,
    ⟨(some 6), (.mv (.t 15)), none⟩])
  (.seq (.seq (.ops [⟨(some 16), (.mv (.t 1)), none⟩,
    ⟨(some 17), (.len (.t 16)), none⟩,
    ⟨(some 18), (.mv (.k (I 0))), none⟩])
  (.block 0 (.loop c62L0)))
  c62T1))))
theorem w62 {x : Cx} {Q : QT} {ks : List Kont} {fr : Fr} {H : AHeap} {ms : List Nat} : W x Q c62 ks fr H ms = W x Q (.seq (.ops [⟨(some 4), (.mv (.k nilSl)), none⟩])
    (.seq (.ops [⟨(some 9), (.mv (.t 0)), none⟩,
      ⟨(some 10), (.len (.t 9)), none⟩,
      ⟨(some 11), (.mksl 1 8 [(I 0)] (.t 10) (.t 10)), none⟩,
      ⟨(some 5), (.mv (.t 11)), none⟩])
    (.seq (.ops [⟨(some 12), (.mv (.t 0)), none⟩,
      ⟨(some 13), (.len (.t 12)), none⟩,
      ⟨(some 14), (.bin .shl (.k (I 1)) (.t 13)), none⟩,
      ⟨(some 15), (.bin .sub (.t 14) (.k (I 1))), none⟩,
      ⟨(some 6), (.mv (.t 15)), none⟩])
    (.seq (.seq (.ops [⟨(some 16), (.mv (.t 1)), none⟩,
      ⟨(some 17), (.len (.t 16)), none⟩,
      ⟨(some 18), (.mv (.k (I 0))), none⟩])
    (.block 0 (.loop c62L0)))
    c62T1)))) ks fr H ms := rfl
def r62 : List IRes := [(.tmp 4)]
theorem t62 : Try.f62.body.bind (trCode Try.prog Try.f62.ntmps) = some (strip c62) := by kernel_rfl
theorem q62 : trRes Try.prog Try.f62.results.toList = some r62 := by kernel_rfl
theorem fn62 : Try.prog.funcs[62]? = some Try.f62 := by kernel_rfl
theorem nn62 : (Try.f62.name == "runtime.NumGoroutine") = false := by kernel_rfl
theorem nt62 : Try.f62.ntmps = 38 := by kernel_rfl
def c30 : ICode :=
  (.seq (.ops [⟨(some 4), (.mv (.k nilSl)), none⟩,
    ⟨(some 5), (.mv (.k (I 0))), none⟩])
  (.seq (.seq (.ops [⟨(some 6), (.mv (.t 0)), none⟩,
    ⟨(some 7), (.call (.k (.fn (.func 55) [] [])) [(.t 6)]), none⟩,
    ⟨(some 8), (.un .not (.t 7)), none⟩,
    ⟨(some 9), (.mv (.t 8)), none⟩,
    ⟨(some 10), (.mv (.t 1)), (some (9, false))⟩,
    ⟨(some 11), (.mv (.t 0)), (some (9, false))⟩,
    ⟨(some 12), (.len (.t 11)), (some (9, false))⟩,
    ⟨(some 13), (.call (.k (.fn (.func 59) [] [])) [(.t 10), (.t 12)]), (some (9, false))⟩,
    ⟨(some 14), (.un .not (.t 13)), (some (9, false))⟩,
    ⟨(some 15), (.pick (.t 9) (.k (B true)) (.t 14)), none⟩])
  (.cond (.t 15)
    (.seq (.ops [⟨(some 4), (.mv (.k nilSl)), none⟩,
      ⟨(some 5), (.mv (.k (I 2))), none⟩])
    .ret)
    .skip))
  (.seq (.ops [⟨(some 16), (.mv (.t 0)), none⟩,
    ⟨(some 17), (.mv (.t 1)), none⟩,
    ⟨(some 18), (.call (.k (.fn (.func 62) [] [])) [(.t 16), (.t 17)]), none⟩,
    ⟨(some 4), (.mv (.t 18)), none⟩,
    ⟨(some 5), (.mv (.k (I 0))), none⟩])
  .ret)))
theorem w30 {x : Cx} {Q : QT} {ks : List Kont} {fr : Fr} {H : AHeap} {ms : List Nat} : W x Q c30 ks fr H ms = W x Q (.seq (.ops [⟨(some 4), (.mv (.k nilSl)), none⟩,
      ⟨(some 5), (.mv (.k (I 0))), none⟩])
    (.seq (.seq (.ops [⟨(some 6), (.mv (.t 0)), none⟩,
      ⟨(some 7), (.call (.k (.fn (.func 55) [] [])) [(.t 6)]), none⟩,
      ⟨(some 8), (.un .not (.t 7)), none⟩,
      ⟨(some 9), (.mv (.t 8)), none⟩,
      ⟨(some 10), (.mv (.t 1)), (some (9, false))⟩,
      ⟨(some 11), (.mv (.t 0)), (some (9, false))⟩,
      ⟨(some 12), (.len (.t 11)), (some (9, false))⟩,
      ⟨(some 13), (.call (.k (.fn (.func 59) [] [])) [(.t 10), (.t 12)]), (some (9, false))⟩,
      ⟨(some 14), (.un .not (.t 13)), (some (9, false))⟩,
      ⟨(some 15), (.pick (.t 9) (.k (B true)) (.t 14)), none⟩])
    (.cond (.t 15)
      (.seq (.ops [⟨(some 4), (.mv (.k nilSl)), none⟩,
        ⟨(some 5), (.mv (.k (I 2))), none⟩])
      .ret)
      .skip))
    (.seq (.ops [⟨(some 16), (.mv (.t 0)), none⟩,
      ⟨(some 17), (.mv (.t 1)), none⟩,
      ⟨(some 18), (.call (.k (.fn (.func 62) [] [])) [(.t 16), (.t 17)]), none⟩,
      ⟨(some 4), (.mv (.t 18)), none⟩,
      ⟨(some 5), (.mv (.k (I 0))), none⟩])
    .ret))) ks fr H ms := rfl
def r30 : List IRes := [(.tmp 4), (.tmp 5)]
theorem t30 : Try.f30.body.bind (trCode Try.prog Try.f30.ntmps) = some (strip c30) := by kernel_rfl
theorem q30 : trRes Try.prog Try.f30.results.toList = some r30 := by kernel_rfl
theorem fn30 : Try.prog.funcs[30]? = some Try.f30 := by kernel_rfl
theorem nn30 : (Try.f30.name == "runtime.NumGoroutine") = false := by kernel_rfl
theorem nt30 : Try.f30.ntmps = 19 := by kernel_rfl
def c63 : ICode :=
  (.seq (.ops [⟨(some 2), (.box (.t 0)), none⟩,
    ⟨(some 3), (.box (.t 1)), none⟩,
    ⟨(some 4), (.mv (.k (.val .nilFunc))), none⟩])
  (.seq (.ops [⟨(some 5), (.mkfn (.func 82) [] [(.t 2), (.t 3)]), none⟩,
    ⟨(some 4), (.mv (.t 5)), none⟩])
  .ret))
theorem w63 {x : Cx} {Q : QT} {ks : List Kont} {fr : Fr} {H : AHeap} {ms : List Nat} : W x Q c63 ks fr H ms = W x Q (.seq (.ops [⟨(some 2), (.box (.t 0)), none⟩,
      ⟨(some 3), (.box (.t 1)), none⟩,
      ⟨(some 4), (.mv (.k (.val .nilFunc))), none⟩])
    (.seq (.ops [⟨(some 5), (.mkfn (.func 82) [] [(.t 2), (.t 3)]), none⟩,
      ⟨(some 4), (.mv (.t 5)), none⟩])
    .ret)) ks fr H ms := rfl
def r63 : List IRes := [(.tmp 4)]
theorem t63 : Try.f63.body.bind (trCode Try.prog Try.f63.ntmps) = some (strip c63) := by kernel_rfl
theorem q63 : trRes Try.prog Try.f63.results.toList = some r63 := by kernel_rfl
theorem fn63 : Try.prog.funcs[63]? = some Try.f63 := by kernel_rfl
theorem nn63 : (Try.f63.name == "runtime.NumGoroutine") = false := by kernel_rfl
theorem nt63 : Try.f63.ntmps = 6 := by kernel_rfl
def c83T1 : ICode :=
  (.keep [] (.seq (.ops [⟨(some 9), (.mv (.k (B true))), none⟩])
  .ret))
theorem w83T1 {x : Cx} {Q : QT} {ks : List Kont} {fr : Fr} {H : AHeap} {ms : List Nat} : W x Q c83T1 ks fr H ms = W x Q (.keep [] (.seq (.ops [⟨(some 9), (.mv (.k (B true))), none⟩])
    .ret)) ks fr H ms := rfl
/- live: [0, 1, 4, 6, 27, 28] -/
def c83L0 : ICode :=
  (.seq (.ops [⟨(some 29), (.bin .lss (.t 28) (.t 27)), none⟩])
  (.seq (.cond (.t 29)
    .skip
    (.exit 0))
  (.seq (.block 1 (.seq (.ops [⟨(some 30), (.mv (.t 28)), none⟩,
    ⟨(some 10), (.mv (.t 30)), none⟩])
  (.seq (.ops [⟨(some 31), (.mv (.t 1)), none⟩,
    ⟨(some 32), (.mv (.t 10)), none⟩,
    ⟨(some 33), (.bin .shr (.t 31) (.t 32)), none⟩,
    ⟨(some 34), (.bin .and (.t 33) (.k (I 1))), none⟩,
    ⟨(some 35), (.bin .eql (.t 34) (.k (I 1))), none⟩])
  (.cond (.t 35)
    (.seq (.ops [⟨(some 36), (.load false 1 (.t 4)), none⟩,
      ⟨(some 37), (.mv (.t 0)), none⟩,
      ⟨(some 38), (.mv (.t 10)), none⟩,
      ⟨(some 39), (.ixS 1 (.t 36) (.t 37)), none⟩,
      ⟨none, (.store 1 (.t 39) (.t 38)), none⟩])
    (.seq (.draw 0 [] (.early 1 ⟨(some 40), (.load false 1 (.t 6)), none⟩
      (.early 1 ⟨(some 41), (.mv (.t 0)), none⟩
      (.early 1 ⟨(some 42), (.bin .add (.t 41) (.k (I 1))), none⟩
      (.early 1 ⟨(some 43), (.mv (.t 1)), none⟩
      (.early 1 ⟨(some 44), (.mv (.t 10)), none⟩
      (.early 1 ⟨(some 45), (.bin .shl (.k (I 1)) (.t 44)), none⟩
      (.early 1 ⟨(some 46), (.bin .andNot (.t 43) (.t 45)), none⟩
      (.step 0 0 ⟨(some 47), (.call (.t 40) [(.t 42), (.t 46)]), none⟩
      (.early 0 ⟨(some 48), (.un .not (.t 47)), none⟩
      .done))))))))))
    (.keep [0, 1, 4, 6, 27, 28, 48] (.cond (.t 48)
      (.seq (.ops [⟨(some 9), (.mv (.k (B false))), none⟩])
      .ret)
      .skip))))
    .skip))))
  (.ops [⟨(some 49), (.bin .add (.t 28) (.k (I 1))), none⟩,
    ⟨(some 28), (.mv (.t 49)), none⟩]))))
theorem w83L0 {x : Cx} {Q : QT} {ks : List Kont} {fr : Fr} {H : AHeap} {ms : List Nat} : W x Q c83L0 ks fr H ms = W x Q (.seq (.ops [⟨(some 29), (.bin .lss (.t 28) (.t 27)), none⟩])
    (.seq (.cond (.t 29)
      .skip
      (.exit 0))
    (.seq (.block 1 (.seq (.ops [⟨(some 30), (.mv (.t 28)), none⟩,
      ⟨(some 10), (.mv (.t 30)), none⟩])
    (.seq (.ops [⟨(some 31), (.mv (.t 1)), none⟩,
      ⟨(some 32), (.mv (.t 10)), none⟩,
      ⟨(some 33), (.bin .shr (.t 31) (.t 32)), none⟩,
      ⟨(some 34), (.bin .and (.t 33) (.k (I 1))), none⟩,
      ⟨(some 35), (.bin .eql (.t 34) (.k (I 1))), none⟩])
    (.cond (.t 35)
      (.seq (.ops [⟨(some 36), (.load false 1 (.t 4)), none⟩,
        ⟨(some 37), (.mv (.t 0)), none⟩,
        ⟨(some 38), (.mv (.t 10)), none⟩,
        ⟨(some 39), (.ixS 1 (.t 36) (.t 37)), none⟩,
        ⟨none, (.store 1 (.t 39) (.t 38)), none⟩])
      (.seq (.draw 0 [] (.early 1 ⟨(some 40), (.load false 1 (.t 6)), none⟩
        (.early 1 ⟨(some 41), (.mv (.t 0)), none⟩
        (.early 1 ⟨(some 42), (.bin .add (.t 41) (.k (I 1))), none⟩
        (.early 1 ⟨(some 43), (.mv (.t 1)), none⟩
        (.early 1 ⟨(some 44), (.mv (.t 10)), none⟩
        (.early 1 ⟨(some 45), (.bin .shl (.k (I 1)) (.t 44)), none⟩
        (.early 1 ⟨(some 46), (.bin .andNot (.t 43) (.t 45)), none⟩
        (.step 0 0 ⟨(some 47), (.call (.t 40) [(.t 42), (.t 46)]), none⟩
        (.early 0 ⟨(some 48), (.un .not (.t 47)), none⟩
        .done))))))))))
      (.keep [0, 1, 4, 6, 27, 28, 48] (.cond (.t 48)
        (.seq (.ops [⟨(some 9), (.mv (.k (B false))), none⟩])
        .ret)
        .skip))))
      .skip))))
    (.ops [⟨(some 49), (.bin .add (.t 28) (.k (I 1))), none⟩,
      ⟨(some 28), (.mv (.t 49)), none⟩])))) ks fr H ms := rfl
def c83 : ICode :=
  (.seq (.ops [⟨(some 9), (.mv (.k (B false))), none⟩])
  (.seq (.seq (.ops [⟨(some 11), (.mv (.t 0)), none⟩,
    ⟨(some 12), (.load false 1 (.t 2)), none⟩,
    ⟨(some 13), (.bin .eql (.t 11) (.t 12)), none⟩])
  (.cond (.t 13)
    (.seq (.ops [⟨(some 14), (.load false 1 (.t 3)), none⟩,
      ⟨(some 15), (.load false 1 (.t 4)), none⟩,
      ⟨(some 16), (.call (.t 14) [(.t 15)]), none⟩,
      ⟨(some 9), (.mv (.t 16)), none⟩])
    .ret)
    .skip))
  (.seq (.seq (.ops [⟨(some 17), (.load false 1 (.t 5)), none⟩,
    ⟨(some 18), (.mv (.t 0)), none⟩,
    ⟨(some 19), (.bin .shr (.t 17) (.t 18)), none⟩,
    ⟨(some 20), (.bin .and (.t 19) (.k (I 1))), none⟩,
    ⟨(some 21), (.bin .eql (.t 20) (.k (I 0))), none⟩])
  (.cond (.t 21)
    (.seq (.ops [⟨(some 22), (.load false 1 (.t 6)), none⟩,
      ⟨(some 23), (.mv (.t 0)), none⟩,
      ⟨(some 24), (.bin .add (.t 23) (.k (I 1))), none⟩,
      ⟨(some 25), (.mv (.t 1)), none⟩,
      ⟨(some 26), (.call (.t 22) [(.t 24), (.t 25)]), none⟩,
      ⟨(some 9), (.mv (.t 26)), none⟩])
    .ret)
    .skip))
  (.seq (.seq (.ops [⟨(some 27), (.load false 1 (.t 2)), none⟩,
    ⟨(some 28), (.mv (.k (I 0))), none⟩])
  (.block 0 (.loop c83L0)))
  c83T1))))
theorem w83 {x : Cx} {Q : QT} {ks : List Kont} {fr : Fr} {H : AHeap} {ms : List Nat} : W x Q c83 ks fr H ms = W x Q (.seq (.ops [⟨(some 9), (.mv (.k (B false))), none⟩])
    (.seq (.seq (.ops [⟨(some 11), (.mv (.t 0)), none⟩,
      ⟨(some 12), (.load false 1 (.t 2)), none⟩,
      ⟨(some 13), (.bin .eql (.t 11) (.t 12)), none⟩])
    (.cond (.t 13)
      (.seq (.ops [⟨(some 14), (.load false 1 (.t 3)), none⟩,
        ⟨(some 15), (.load false 1 (.t 4)), none⟩,
        ⟨(some 16), (.call (.t 14) [(.t 15)]), none⟩,
        ⟨(some 9), (.mv (.t 16)), none⟩])
      .ret)
      .skip))
    (.seq (.seq (.ops [⟨(some 17), (.load false 1 (.t 5)), none⟩,
      ⟨(some 18), (.mv (.t 0)), none⟩,
      ⟨(some 19), (.bin .shr (.t 17) (.t 18)), none⟩,
      ⟨(some 20), (.bin .and (.t 19) (.k (I 1))), none⟩,
      ⟨(some 21), (.bin .eql (.t 20) (.k (I 0))), none⟩])
    (.cond (.t 21)
      (.seq (.ops [⟨(some 22), (.load false 1 (.t 6)), none⟩,
        ⟨(some 23), (.mv (.t 0)), none⟩,
        ⟨(some 24), (.bin .add (.t 23) (.k (I 1))), none⟩,
        ⟨(some 25), (.mv (.t 1)), none⟩,
        ⟨(some 26), (.call (.t 22) [(.t 24), (.t 25)]), none⟩,
        ⟨(some 9), (.mv (.t 26)), none⟩])
      .ret)
      .skip))
    (.seq (.seq (.ops [⟨(some 27), (.load false 1 (.t 2)), none⟩,
      ⟨(some 28), (.mv (.k (I 0))), none⟩])
    (.block 0 (.loop c83L0)))
    c83T1)))) ks fr H ms := rfl
def r83 : List IRes := [(.tmp 9)]
theorem t83 : Try.f83.body.bind (trCode Try.prog Try.f83.ntmps) = some (strip c83) := by kernel_rfl
theorem q83 : trRes Try.prog Try.f83.results.toList = some r83 := by kernel_rfl
theorem fn83 : Try.prog.funcs[83]? = some Try.f83 := by kernel_rfl
theorem nn83 : (Try.f83.name == "runtime.NumGoroutine") = false := by kernel_rfl
theorem nt83 : Try.f83.ntmps = 50 := by kernel_rfl
def c82 : ICode :=
  (.seq (.ops [⟨(some 3), (.box (.t 0)), none⟩])
  (.seq (.ops [⟨(some 6), (.load false 1 (.t 1)), none⟩,
    ⟨(some 7), (.mksl 1 8 [(I 0)] (.t 6) (.t 6)), none⟩,
    ⟨(some 4), (.alloc [nilSl]), none⟩,
    ⟨none, (.store 1 (.t 4) (.t 7)), none⟩])
  (.seq (.ops [⟨(some 5), (.alloc [(.val .nilFunc)]), none⟩])
  (.seq (.ops [⟨(some 8), (.mkfn (.func 83) [] [(.t 1), (.t 3), (.t 4), (.t 2), (.t 5)]), none⟩,
    ⟨none, (.store 1 (.t 5) (.t 8)), none⟩])
  (.ops [⟨(some 9), (.load false 1 (.t 5)), none⟩,
    ⟨(some 10), (.load false 1 (.t 2)), none⟩,
    ⟨(some 11), (.call (.t 9) [(.k (I 0)), (.t 10)]), none⟩])))))
theorem w82 {x : Cx} {Q : QT} {ks : List Kont} {fr : Fr} {H : AHeap} {ms : List Nat} : W x Q c82 ks fr H ms = W x Q (.seq (.ops [⟨(some 3), (.box (.t 0)), none⟩])
    (.seq (.ops [⟨(some 6), (.load false 1 (.t 1)), none⟩,
      ⟨(some 7), (.mksl 1 8 [(I 0)] (.t 6) (.t 6)), none⟩,
      ⟨(some 4), (.alloc [nilSl]), none⟩,
      ⟨none, (.store 1 (.t 4) (.t 7)), none⟩])
    (.seq (.ops [⟨(some 5), (.alloc [(.val .nilFunc)]), none⟩])
    (.seq (.ops [⟨(some 8), (.mkfn (.func 83) [] [(.t 1), (.t 3), (.t 4), (.t 2), (.t 5)]), none⟩,
      ⟨none, (.store 1 (.t 5) (.t 8)), none⟩])
    (.ops [⟨(some 9), (.load false 1 (.t 5)), none⟩,
      ⟨(some 10), (.load false 1 (.t 2)), none⟩,
      ⟨(some 11), (.call (.t 9) [(.k (I 0)), (.t 10)]), none⟩]))))) ks fr H ms := rfl
def r82 : List IRes := []
theorem t82 : Try.f82.body.bind (trCode Try.prog Try.f82.ntmps) = some (strip c82) := by kernel_rfl
theorem q82 : trRes Try.prog Try.f82.results.toList = some r82 := by kernel_rfl
theorem fn82 : Try.prog.funcs[82]? = some Try.f82 := by kernel_rfl
theorem nn82 : (Try.f82.name == "runtime.NumGoroutine") = false := by kernel_rfl
theorem nt82 : Try.f82.ntmps = 12 := by kernel_rfl
def c31R0a : ICode :=
  (.ops [⟨(some 7), (.mv (.t 26)), none⟩])
theorem w31R0a {x : Cx} {Q : QT} {ks : List Kont} {fr : Fr} {H : AHeap} {ms : List Nat} : W x Q c31R0a ks fr H ms = W x Q (.ops [⟨(some 7), (.mv (.t 26)), none⟩]) ks fr H ms := rfl
theorem t31R0a : trCode Try.prog 34 (asOf Try.f31 0) = some (strip c31R0a) := by kernel_rfl
def c31R0b : ICode :=
  (.block 1 (.seq (.draw 0 [] (.early 1 ⟨(some 27), (.load false 1 (.t 6)), none⟩
    (.early 1 ⟨(some 28), (.mv (.t 7)), none⟩
    (.early 1 ⟨(some 29), (.call (.k (.fn (.func 62) [] [])) [(.t 27), (.t 28)]), none⟩
    (.early 1 ⟨(some 30), (.load false 1 (.t 3)), none⟩
    (.step 0 0 ⟨(some 31), (.call (.k (.fn (.func 20) [] [])) [(.t 29), (.t 30)]), none⟩
    .done))))))
  (.cond (.t 31)
    (.seq (.ops [⟨(some 32), (.mv (.t 7)), none⟩,
      ⟨(some 33), (.call (.k (.fn (.func 43) [] [])) [(.t 32)]), none⟩,
      ⟨none, (.store 1 (.t 4) (.t 33)), none⟩,
      ⟨none, (.store 1 (.t 5) (.k (I 0))), none⟩])
    .ret)
    .skip)))
theorem w31R0b {x : Cx} {Q : QT} {ks : List Kont} {fr : Fr} {H : AHeap} {ms : List Nat} : W x Q c31R0b ks fr H ms = W x Q (.block 1 (.seq (.draw 0 [] (.early 1 ⟨(some 27), (.load false 1 (.t 6)), none⟩
      (.early 1 ⟨(some 28), (.mv (.t 7)), none⟩
      (.early 1 ⟨(some 29), (.call (.k (.fn (.func 62) [] [])) [(.t 27), (.t 28)]), none⟩
      (.early 1 ⟨(some 30), (.load false 1 (.t 3)), none⟩
      (.step 0 0 ⟨(some 31), (.call (.k (.fn (.func 20) [] [])) [(.t 29), (.t 30)]), none⟩
      .done))))))
    (.cond (.t 31)
      (.seq (.ops [⟨(some 32), (.mv (.t 7)), none⟩,
        ⟨(some 33), (.call (.k (.fn (.func 43) [] [])) [(.t 32)]), none⟩,
        ⟨none, (.store 1 (.t 4) (.t 33)), none⟩,
        ⟨none, (.store 1 (.t 5) (.k (I 0))), none⟩])
      .ret)
      .skip))) ks fr H ms := rfl
theorem t31R0b : trCode Try.prog 34 (bdOf Try.f31 0) = some (strip c31R0b) := by kernel_rfl
def c31T0 : ICode :=
  (.seq (.ops [⟨none, (.store 1 (.t 4) (.k nilSl)), none⟩,
    ⟨none, (.store 1 (.t 5) (.k (I 4))), none⟩])
  .ret)
theorem w31T0 {x : Cx} {Q : QT} {ks : List Kont} {fr : Fr} {H : AHeap} {ms : List Nat} : W x Q c31T0 ks fr H ms = W x Q (.seq (.ops [⟨none, (.store 1 (.t 4) (.k nilSl)), none⟩,
      ⟨none, (.store 1 (.t 5) (.k (I 4))), none⟩])
    .ret) ks fr H ms := rfl
noncomputable def c31 : ICode :=
  (.seq (.ops [⟨(some 3), (.box (.t 1)), none⟩,
    ⟨(some 4), (.alloc [nilSl]), none⟩,
    ⟨(some 5), (.alloc [(I 0)]), none⟩])
  (.seq (.ops [⟨(some 8), (.mv (.t 0)), none⟩,
    ⟨(some 6), (.alloc [nilSl]), none⟩,
    ⟨none, (.store 1 (.t 6) (.t 8)), none⟩])
  (.seq (.seq (.ops [⟨(some 9), (.load false 1 (.t 6)), none⟩,
    ⟨(some 10), (.call (.k (.fn (.func 55) [] [])) [(.t 9)]), none⟩,
    ⟨(some 11), (.un .not (.t 10)), none⟩,
    ⟨(some 12), (.mv (.t 11)), none⟩,
    ⟨(some 13), (.load false 1 (.t 3)), (some (12, false))⟩,
    ⟨(some 14), (.mv (.t 0)), (some (12, false))⟩,
    ⟨(some 15), (.len (.t 14)), (some (12, false))⟩,
    ⟨(some 16), (.call (.k (.fn (.func 59) [] [])) [(.t 13), (.t 15)]), (some (12, false))⟩,
    ⟨(some 17), (.un .not (.t 16)), (some (12, false))⟩,
    ⟨(some 18), (.pick (.t 12) (.k (B true)) (.t 17)), none⟩])
  (.cond (.t 18)
    (.seq (.ops [⟨none, (.store 1 (.t 4) (.k nilSl)), none⟩,
      ⟨none, (.store 1 (.t 5) (.k (I 2))), none⟩])
    .ret)
    .skip))
  (.seq (.seq (.ops [⟨(some 19), (.mv (.t 0)), none⟩,
    ⟨(some 20), (.len (.t 19)), none⟩,
    ⟨(some 21), (.mv (.t 0)), none⟩,
    ⟨(some 22), (.len (.t 21)), none⟩,
    ⟨(some 23), (.bin .shl (.k (I 1)) (.t 22)), none⟩,
    ⟨(some 24), (.bin .sub (.t 23) (.k (I 1))), none⟩,
    ⟨(some 25), (.call (.k (.fn (.func 63) [] [])) [(.t 20), (.t 24)]), none⟩])
  (.block 0 (.range (.t 25) [26] (asOf Try.f31 0) (bdOf Try.f31 0))))
  c31T0))))
theorem w31 {x : Cx} {Q : QT} {ks : List Kont} {fr : Fr} {H : AHeap} {ms : List Nat} : W x Q c31 ks fr H ms = W x Q (.seq (.ops [⟨(some 3), (.box (.t 1)), none⟩,
      ⟨(some 4), (.alloc [nilSl]), none⟩,
      ⟨(some 5), (.alloc [(I 0)]), none⟩])
    (.seq (.ops [⟨(some 8), (.mv (.t 0)), none⟩,
      ⟨(some 6), (.alloc [nilSl]), none⟩,
      ⟨none, (.store 1 (.t 6) (.t 8)), none⟩])
    (.seq (.seq (.ops [⟨(some 9), (.load false 1 (.t 6)), none⟩,
      ⟨(some 10), (.call (.k (.fn (.func 55) [] [])) [(.t 9)]), none⟩,
      ⟨(some 11), (.un .not (.t 10)), none⟩,
      ⟨(some 12), (.mv (.t 11)), none⟩,
      ⟨(some 13), (.load false 1 (.t 3)), (some (12, false))⟩,
      ⟨(some 14), (.mv (.t 0)), (some (12, false))⟩,
      ⟨(some 15), (.len (.t 14)), (some (12, false))⟩,
      ⟨(some 16), (.call (.k (.fn (.func 59) [] [])) [(.t 13), (.t 15)]), (some (12, false))⟩,
      ⟨(some 17), (.un .not (.t 16)), (some (12, false))⟩,
      ⟨(some 18), (.pick (.t 12) (.k (B true)) (.t 17)), none⟩])
    (.cond (.t 18)
      (.seq (.ops [⟨none, (.store 1 (.t 4) (.k nilSl)), none⟩,
        ⟨none, (.store 1 (.t 5) (.k (I 2))), none⟩])
      .ret)
      .skip))
    (.seq (.seq (.ops [⟨(some 19), (.mv (.t 0)), none⟩,
      ⟨(some 20), (.len (.t 19)), none⟩,
      ⟨(some 21), (.mv (.t 0)), none⟩,
      ⟨(some 22), (.len (.t 21)), none⟩,
      ⟨(some 23), (.bin .shl (.k (I 1)) (.t 22)), none⟩,
      ⟨(some 24), (.bin .sub (.t 23) (.k (I 1))), none⟩,
      ⟨(some 25), (.call (.k (.fn (.func 63) [] [])) [(.t 20), (.t 24)]), none⟩])
    (.block 0 (.range (.t 25) [26] (asOf Try.f31 0) (bdOf Try.f31 0))))
    c31T0)))) ks fr H ms := rfl
def r31 : List IRes := [(.cell false 1 4), (.cell false 1 5)]
theorem t31 : Try.f31.body.bind (trCode Try.prog Try.f31.ntmps) = some (strip c31) := by kernel_rfl
theorem q31 : trRes Try.prog Try.f31.results.toList = some r31 := by kernel_rfl
theorem fn31 : Try.prog.funcs[31]? = some Try.f31 := by kernel_rfl
theorem nn31 : (Try.f31.name == "runtime.NumGoroutine") = false := by kernel_rfl
theorem nt31 : Try.f31.ntmps = 34 := by kernel_rfl
def c32T4 : ICode :=
  (.keep [5] (.seq (.ops [⟨(some 55), (.mv (.t 5)), none⟩,
    ⟨(some 4), (.mv (.t 55)), none⟩])
  .ret))
theorem w32T4 {x : Cx} {Q : QT} {ks : List Kont} {fr : Fr} {H : AHeap} {ms : List Nat} : W x Q c32T4 ks fr H ms = W x Q (.keep [5] (.seq (.ops [⟨(some 55), (.mv (.t 5)), none⟩,
      ⟨(some 4), (.mv (.t 55)), none⟩])
    .ret)) ks fr H ms := rfl
def c32T3 : ICode :=
  (.keep [0, 5, 6, 13, 14, 15] (.ops [⟨(some 54), (.bin .add (.t 15) (.k (I 1))), none⟩,
    ⟨(some 15), (.mv (.t 54)), none⟩]))
theorem w32T3 {x : Cx} {Q : QT} {ks : List Kont} {fr : Fr} {H : AHeap} {ms : List Nat} : W x Q c32T3 ks fr H ms = W x Q (.keep [0, 5, 6, 13, 14, 15] (.ops [⟨(some 54), (.bin .add (.t 15) (.k (I 1))), none⟩,
      ⟨(some 15), (.mv (.t 54)), none⟩])) ks fr H ms := rfl
def c32T2 : ICode :=
  (.keep [0, 5, 6, 8, 13, 14, 15] (.ops [⟨(some 47), (.mv (.t 6)), none⟩,
    ⟨(some 48), (.mv (.t 5)), none⟩,
    ⟨(some 49), (.mv (.t 8)), none⟩,
    ⟨(some 50), (.ixS 1 (.t 48) (.t 49)), none⟩,
    ⟨(some 51), (.load false 1 (.t 50)), none⟩,
    ⟨(some 52), (.bin .shl (.k (I 1)) (.t 51)), none⟩,
    ⟨(some 53), (.bin .or (.t 47) (.t 52)), none⟩,
    ⟨(some 6), (.mv (.t 53)), none⟩]))
theorem w32T2 {x : Cx} {Q : QT} {ks : List Kont} {fr : Fr} {H : AHeap} {ms : List Nat} : W x Q c32T2 ks fr H ms = W x Q (.keep [0, 5, 6, 8, 13, 14, 15] (.ops [⟨(some 47), (.mv (.t 6)), none⟩,
      ⟨(some 48), (.mv (.t 5)), none⟩,
      ⟨(some 49), (.mv (.t 8)), none⟩,
      ⟨(some 50), (.ixS 1 (.t 48) (.t 49)), none⟩,
      ⟨(some 51), (.load false 1 (.t 50)), none⟩,
      ⟨(some 52), (.bin .shl (.k (I 1)) (.t 51)), none⟩,
      ⟨(some 53), (.bin .or (.t 47) (.t 52)), none⟩,
      ⟨(some 6), (.mv (.t 53)), none⟩])) ks fr H ms := rfl
/- live: [0, 5, 6, 8, 9, 13, 14, 15] -/
def c32L1 : ICode :=
  (.seq (.seq (.ops [⟨(some 22), (.mv (.t 9)), none⟩,
    ⟨(some 23), (.bin .geq (.t 22) (.k (I 0))), none⟩])
  (.cond (.t 23)
    .skip
    (.exit 2)))
  (.seq (.block 3 (.seq (.ops [⟨(some 26), (.mv (.t 6)), none⟩,
    ⟨(some 27), (.mv (.t 0)), none⟩,
    ⟨(some 28), (.mv (.t 8)), none⟩,
    ⟨(some 29), (.ixS 1 (.t 27) (.t 28)), none⟩,
    ⟨(some 30), (.load false 1 (.t 29)), none⟩,
    ⟨(some 31), (.mv (.t 9)), none⟩,
    ⟨(some 32), (.ixS 1 (.t 30) (.t 31)), none⟩,
    ⟨(some 33), (.load false 1 (.t 32)), none⟩,
    ⟨(some 34), (.bin .shr (.t 26) (.t 33)), none⟩,
    ⟨(some 35), (.bin .and (.t 34) (.k (I 1))), none⟩,
    ⟨(some 36), (.bin .eql (.t 35) (.k (I 0))), none⟩])
  (.cond (.t 36)
    (.ops [⟨(some 37), (.mv (.t 5)), none⟩,
      ⟨(some 38), (.mv (.t 8)), none⟩,
      ⟨(some 39), (.mv (.t 0)), none⟩,
      ⟨(some 40), (.mv (.t 8)), none⟩,
      ⟨(some 41), (.ixS 1 (.t 39) (.t 40)), none⟩,
      ⟨(some 42), (.load false 1 (.t 41)), none⟩,
      ⟨(some 43), (.mv (.t 9)), none⟩,
      ⟨(some 44), (.ixS 1 (.t 42) (.t 43)), none⟩,
      ⟨(some 45), (.load false 1 (.t 44)), none⟩,
      ⟨(some 46), (.ixS 1 (.t 37) (.t 38)), none⟩,
      ⟨none, (.store 1 (.t 46) (.t 45)), none⟩])
    .skip)))
  (.ops [⟨(some 24), (.mv (.t 9)), none⟩,
    ⟨(some 25), (.bin .sub (.t 24) (.k (I 1))), none⟩,
    ⟨(some 9), (.mv (.t 25)), none⟩])))
theorem w32L1 {x : Cx} {Q : QT} {ks : List Kont} {fr : Fr} {H : AHeap} {ms : List Nat} : W x Q c32L1 ks fr H ms = W x Q (.seq (.seq (.ops [⟨(some 22), (.mv (.t 9)), none⟩,
      ⟨(some 23), (.bin .geq (.t 22) (.k (I 0))), none⟩])
    (.cond (.t 23)
      .skip
      (.exit 2)))
    (.seq (.block 3 (.seq (.ops [⟨(some 26), (.mv (.t 6)), none⟩,
      ⟨(some 27), (.mv (.t 0)), none⟩,
      ⟨(some 28), (.mv (.t 8)), none⟩,
      ⟨(some 29), (.ixS 1 (.t 27) (.t 28)), none⟩,
      ⟨(some 30), (.load false 1 (.t 29)), none⟩,
      ⟨(some 31), (.mv (.t 9)), none⟩,
      ⟨(some 32), (.ixS 1 (.t 30) (.t 31)), none⟩,
      ⟨(some 33), (.load false 1 (.t 32)), none⟩,
      ⟨(some 34), (.bin .shr (.t 26) (.t 33)), none⟩,
      ⟨(some 35), (.bin .and (.t 34) (.k (I 1))), none⟩,
      ⟨(some 36), (.bin .eql (.t 35) (.k (I 0))), none⟩])
    (.cond (.t 36)
      (.ops [⟨(some 37), (.mv (.t 5)), none⟩,
        ⟨(some 38), (.mv (.t 8)), none⟩,
        ⟨(some 39), (.mv (.t 0)), none⟩,
        ⟨(some 40), (.mv (.t 8)), none⟩,
        ⟨(some 41), (.ixS 1 (.t 39) (.t 40)), none⟩,
        ⟨(some 42), (.load false 1 (.t 41)), none⟩,
        ⟨(some 43), (.mv (.t 9)), none⟩,
        ⟨(some 44), (.ixS 1 (.t 42) (.t 43)), none⟩,
        ⟨(some 45), (.load false 1 (.t 44)), none⟩,
        ⟨(some 46), (.ixS 1 (.t 37) (.t 38)), none⟩,
        ⟨none, (.store 1 (.t 46) (.t 45)), none⟩])
      .skip)))
    (.ops [⟨(some 24), (.mv (.t 9)), none⟩,
      ⟨(some 25), (.bin .sub (.t 24) (.k (I 1))), none⟩,
      ⟨(some 9), (.mv (.t 25)), none⟩]))) ks fr H ms := rfl
/- live: [0, 5, 6, 13, 14, 15] -/
def c32L0 : ICode :=
  (.seq (.ops [⟨(some 16), (.bin .lss (.t 15) (.t 14)), none⟩])
  (.seq (.cond (.t 16)
    .skip
    (.exit 0))
  (.seq (.block 1 (.seq (.ops [⟨(some 17), (.ixS 1 (.t 13) (.t 15)), none⟩,
    ⟨(some 18), (.load false 1 (.t 17)), none⟩,
    ⟨(some 8), (.mv (.t 18)), none⟩])
  (.seq (.seq (.ops [⟨(some 19), (.mv (.t 0)), none⟩,
    ⟨(some 20), (.len (.t 19)), none⟩,
    ⟨(some 21), (.bin .sub (.t 20) (.k (I 1))), none⟩,
    ⟨(some 9), (.mv (.t 21)), none⟩])
  (.block 2 (.loop c32L1)))
  c32T2)))
  c32T3)))
theorem w32L0 {x : Cx} {Q : QT} {ks : List Kont} {fr : Fr} {H : AHeap} {ms : List Nat} : W x Q c32L0 ks fr H ms = W x Q (.seq (.ops [⟨(some 16), (.bin .lss (.t 15) (.t 14)), none⟩])
    (.seq (.cond (.t 16)
      .skip
      (.exit 0))
    (.seq (.block 1 (.seq (.ops [⟨(some 17), (.ixS 1 (.t 13) (.t 15)), none⟩,
      ⟨(some 18), (.load false 1 (.t 17)), none⟩,
      ⟨(some 8), (.mv (.t 18)), none⟩])
    (.seq (.seq (.ops [⟨(some 19), (.mv (.t 0)), none⟩,
      ⟨(some 20), (.len (.t 19)), none⟩,
      ⟨(some 21), (.bin .sub (.t 20) (.k (I 1))), none⟩,
      ⟨(some 9), (.mv (.t 21)), none⟩])
    (.block 2 (.loop c32L1)))
    c32T2)))
    c32T3))) ks fr H ms := rfl
def c32 : ICode :=
  (.seq (.ops [⟨(some 4), (.mv (.k nilSl)), none⟩])
  (.seq (.ops [⟨(some 10), (.mv (.t 0)), none⟩,
    ⟨(some 11), (.len (.t 10)), none⟩,
    ⟨(some 12), (.mksl 1 8 [(I 0)] (.t 11) (.t 11)), none⟩,
    ⟨(some 5), (.mv (.t 12)), none⟩])
  (.seq (.ops [⟨(some 6), (.mv (.k (I 0))), none⟩])
  (.seq (.seq (.ops [⟨(some 13), (.mv (.t 1)), none⟩,
    ⟨(some 14), (.len (.t 13)), none⟩,
    ⟨(some 15), (.mv (.k (I 0))), none⟩])
  (.block 0 (.loop c32L0)))
  c32T4))))
theorem w32 {x : Cx} {Q : QT} {ks : List Kont} {fr : Fr} {H : AHeap} {ms : List Nat} : W x Q c32 ks fr H ms = W x Q (.seq (.ops [⟨(some 4), (.mv (.k nilSl)), none⟩])
    (.seq (.ops [⟨(some 10), (.mv (.t 0)), none⟩,
      ⟨(some 11), (.len (.t 10)), none⟩,
      ⟨(some 12), (.mksl 1 8 [(I 0)] (.t 11) (.t 11)), none⟩,
      ⟨(some 5), (.mv (.t 12)), none⟩])
    (.seq (.ops [⟨(some 6), (.mv (.k (I 0))), none⟩])
    (.seq (.seq (.ops [⟨(some 13), (.mv (.t 1)), none⟩,
      ⟨(some 14), (.len (.t 13)), none⟩,
      ⟨(some 15), (.mv (.k (I 0))), none⟩])
    (.block 0 (.loop c32L0)))
    c32T4)))) ks fr H ms := rfl
def r32 : List IRes := [(.tmp 4)]
theorem t32 : Try.f32.body.bind (trCode Try.prog Try.f32.ntmps) = some (strip c32) := by kernel_rfl
theorem q32 : trRes Try.prog Try.f32.results.toList = some r32 := by kernel_rfl
theorem fn32 : Try.prog.funcs[32]? = some Try.f32 := by kernel_rfl
theorem nn32 : (Try.f32.name == "runtime.NumGoroutine") = false := by kernel_rfl
theorem nt32 : Try.f32.ntmps = 56 := by kernel_rfl
def c64T4 : ICode :=
  (.keep [5] (.seq (.ops [⟨(some 49), (.mv (.t 5)), none⟩,
    ⟨(some 4), (.mv (.t 49)), none⟩])
  .ret))
theorem w64T4 {x : Cx} {Q : QT} {ks : List Kont} {fr : Fr} {H : AHeap} {ms : List Nat} : W x Q c64T4 ks fr H ms = W x Q (.keep [5] (.seq (.ops [⟨(some 49), (.mv (.t 5)), none⟩,
      ⟨(some 4), (.mv (.t 49)), none⟩])
    .ret)) ks fr H ms := rfl
def c64T3 : ICode :=
  (.keep [0, 1, 5, 16, 17] (.ops [⟨(some 48), (.bin .add (.t 17) (.k (I 1))), none⟩,
    ⟨(some 17), (.mv (.t 48)), none⟩]))
theorem w64T3 {x : Cx} {Q : QT} {ks : List Kont} {fr : Fr} {H : AHeap} {ms : List Nat} : W x Q c64T3 ks fr H ms = W x Q (.keep [0, 1, 5, 16, 17] (.ops [⟨(some 48), (.bin .add (.t 17) (.k (I 1))), none⟩,
      ⟨(some 17), (.mv (.t 48)), none⟩])) ks fr H ms := rfl
def c64T2 : ICode :=
  (.keep [0, 1, 5, 6, 7, 16, 17] (.seq (.ops [⟨(some 33), (.mv (.t 7)), none⟩,
    ⟨(some 34), (.un .not (.t 33)), none⟩])
  (.cond (.t 34)
    (.ops [⟨(some 35), (.mv (.t 5)), none⟩,
      ⟨(some 36), (.mv (.t 0)), none⟩,
      ⟨(some 37), (.mv (.t 1)), none⟩,
      ⟨(some 38), (.mv (.t 1)), none⟩,
      ⟨(some 39), (.len (.t 38)), none⟩,
      ⟨(some 40), (.mv (.t 1)), none⟩,
      ⟨(some 41), (.len (.t 40)), none⟩,
      ⟨(some 42), (.slS 1 (.t 37) none (some (.t 39)) (some (.t 41))), none⟩,
      ⟨(some 43), (.mv (.t 6)), none⟩,
      ⟨(some 44), (.bslice 1 1 [(I 0)] [(0, 1, (.t 43))]), none⟩,
      ⟨(some 45), (.append 1 8 (.t 42) (.t 44)), none⟩,
      ⟨(some 46), (.call (.k (.fn (.func 64) [] [])) [(.t 36), (.t 45)]), none⟩,
      ⟨(some 47), (.append 1 24 (.t 35) (.t 46)), none⟩,
      ⟨(some 5), (.mv (.t 47)), none⟩])
    .skip)))
theorem w64T2 {x : Cx} {Q : QT} {ks : List Kont} {fr : Fr} {H : AHeap} {ms : List Nat} : W x Q c64T2 ks fr H ms = W x Q (.keep [0, 1, 5, 6, 7, 16, 17] (.seq (.ops [⟨(some 33), (.mv (.t 7)), none⟩,
      ⟨(some 34), (.un .not (.t 33)), none⟩])
    (.cond (.t 34)
      (.ops [⟨(some 35), (.mv (.t 5)), none⟩,
        ⟨(some 36), (.mv (.t 0)), none⟩,
        ⟨(some 37), (.mv (.t 1)), none⟩,
        ⟨(some 38), (.mv (.t 1)), none⟩,
        ⟨(some 39), (.len (.t 38)), none⟩,
        ⟨(some 40), (.mv (.t 1)), none⟩,
        ⟨(some 41), (.len (.t 40)), none⟩,
        ⟨(some 42), (.slS 1 (.t 37) none (some (.t 39)) (some (.t 41))), none⟩,
        ⟨(some 43), (.mv (.t 6)), none⟩,
        ⟨(some 44), (.bslice 1 1 [(I 0)] [(0, 1, (.t 43))]), none⟩,
        ⟨(some 45), (.append 1 8 (.t 42) (.t 44)), none⟩,
        ⟨(some 46), (.call (.k (.fn (.func 64) [] [])) [(.t 36), (.t 45)]), none⟩,
        ⟨(some 47), (.append 1 24 (.t 35) (.t 46)), none⟩,
        ⟨(some 5), (.mv (.t 47)), none⟩])
      .skip))) ks fr H ms := rfl
/- live: [0, 1, 5, 6, 7, 16, 17, 20, 21, 22] -/
def c64L1 : ICode :=
  (.seq (.ops [⟨(some 23), (.bin .lss (.t 22) (.t 21)), none⟩])
  (.seq (.cond (.t 23)
    .skip
    (.exit 2))
  (.seq (.block 3 (.seq (.ops [⟨(some 24), (.ixS 1 (.t 20) (.t 22)), none⟩,
    ⟨(some 25), (.load false 1 (.t 24)), none⟩,
    ⟨(some 9), (.mv (.t 25)), none⟩])
  (.ops [⟨(some 26), (.mv (.t 7)), none⟩,
    ⟨(some 27), (.mv (.t 26)), none⟩,
    ⟨(some 28), (.mv (.t 6)), (some (27, false))⟩,
    ⟨(some 29), (.mv (.t 9)), (some (27, false))⟩,
    ⟨(some 30), (.bin .eql (.t 28) (.t 29)), (some (27, false))⟩,
    ⟨(some 31), (.pick (.t 27) (.k (B true)) (.t 30)), none⟩,
    ⟨(some 7), (.mv (.t 31)), none⟩])))
  (.ops [⟨(some 32), (.bin .add (.t 22) (.k (I 1))), none⟩,
    ⟨(some 22), (.mv (.t 32)), none⟩]))))
theorem w64L1 {x : Cx} {Q : QT} {ks : List Kont} {fr : Fr} {H : AHeap} {ms : List Nat} : W x Q c64L1 ks fr H ms = W x Q (.seq (.ops [⟨(some 23), (.bin .lss (.t 22) (.t 21)), none⟩])
    (.seq (.cond (.t 23)
      .skip
      (.exit 2))
    (.seq (.block 3 (.seq (.ops [⟨(some 24), (.ixS 1 (.t 20) (.t 22)), none⟩,
      ⟨(some 25), (.load false 1 (.t 24)), none⟩,
      ⟨(some 9), (.mv (.t 25)), none⟩])
    (.ops [⟨(some 26), (.mv (.t 7)), none⟩,
      ⟨(some 27), (.mv (.t 26)), none⟩,
      ⟨(some 28), (.mv (.t 6)), (some (27, false))⟩,
      ⟨(some 29), (.mv (.t 9)), (some (27, false))⟩,
      ⟨(some 30), (.bin .eql (.t 28) (.t 29)), (some (27, false))⟩,
      ⟨(some 31), (.pick (.t 27) (.k (B true)) (.t 30)), none⟩,
      ⟨(some 7), (.mv (.t 31)), none⟩])))
    (.ops [⟨(some 32), (.bin .add (.t 22) (.k (I 1))), none⟩,
      ⟨(some 22), (.mv (.t 32)), none⟩])))) ks fr H ms := rfl
/- live: [0, 1, 5, 16, 17] -/
def c64L0 : ICode :=
  (.seq (.ops [⟨(some 18), (.bin .lss (.t 17) (.t 16)), none⟩])
  (.seq (.cond (.t 18)
    .skip
    (.exit 0))
  (.seq (.block 1 (.seq (.ops [⟨(some 19), (.mv (.t 17)), none⟩,
    ⟨(some 6), (.mv (.t 19)), none⟩])
  (.seq (.ops [⟨(some 7), (.mv (.k (B false))), none⟩])
  (.seq (.seq (.ops [⟨(some 20), (.mv (.t 1)), none⟩,
    ⟨(some 21), (.len (.t 20)), none⟩,
    ⟨(some 22), (.mv (.k (I 0))), none⟩])
  (.block 2 (.loop c64L1)))
  c64T2))))
  c64T3)))
theorem w64L0 {x : Cx} {Q : QT} {ks : List Kont} {fr : Fr} {H : AHeap} {ms : List Nat} : W x Q c64L0 ks fr H ms = W x Q (.seq (.ops [⟨(some 18), (.bin .lss (.t 17) (.t 16)), none⟩])
    (.seq (.cond (.t 18)
      .skip
      (.exit 0))
    (.seq (.block 1 (.seq (.ops [⟨(some 19), (.mv (.t 17)), none⟩,
      ⟨(some 6), (.mv (.t 19)), none⟩])
    (.seq (.ops [⟨(some 7), (.mv (.k (B false))), none⟩])
    (.seq (.seq (.ops [⟨(some 20), (.mv (.t 1)), none⟩,
      ⟨(some 21), (.len (.t 20)), none⟩,
      ⟨(some 22), (.mv (.k (I 0))), none⟩])
    (.block 2 (.loop c64L1)))
    c64T2))))
    c64T3))) ks fr H ms := rfl
def c64 : ICode :=
  (.seq (.ops [⟨(some 4), (.mv (.k nilSl)), none⟩])
  (.seq (.seq (.ops [⟨(some 10), (.mv (.t 1)), none⟩,
    ⟨(some 11), (.len (.t 10)), none⟩,
    ⟨(some 12), (.mv (.t 0)), none⟩,
    ⟨(some 13), (.bin .eql (.t 11) (.t 12)), none⟩])
  (.cond (.t 13)
    (.seq (.ops [⟨(some 14), (.mv (.t 1)), none⟩,
      ⟨(some 15), (.bslice 1 1 [nilSl] [(0, 1, (.t 14))]), none⟩,
      ⟨(some 4), (.mv (.t 15)), none⟩])
    .ret)
    .skip))
  (.seq (.ops [⟨(some 5), (.mv (.k nilSl)), none⟩])
  (.seq (.seq (.ops [⟨(some 16), (.mv (.t 0)), none⟩,
    ⟨(some 17), (.mv (.k (I 0))), none⟩])
  (.block 0 (.loop c64L0)))
  c64T4))))
theorem w64 {x : Cx} {Q : QT} {ks : List Kont} {fr : Fr} {H : AHeap} {ms : List Nat} : W x Q c64 ks fr H ms = W x Q (.seq (.ops [⟨(some 4), (.mv (.k nilSl)), none⟩])
    (.seq (.seq (.ops [⟨(some 10), (.mv (.t 1)), none⟩,
      ⟨(some 11), (.len (.t 10)), none⟩,
      ⟨(some 12), (.mv (.t 0)), none⟩,
      ⟨(some 13), (.bin .eql (.t 11) (.t 12)), none⟩])
    (.cond (.t 13)
      (.seq (.ops [⟨(some 14), (.mv (.t 1)), none⟩,
        ⟨(some 15), (.bslice 1 1 [nilSl] [(0, 1, (.t 14))]), none⟩,
        ⟨(some 4), (.mv (.t 15)), none⟩])
      .ret)
      .skip))
    (.seq (.ops [⟨(some 5), (.mv (.k nilSl)), none⟩])
    (.seq (.seq (.ops [⟨(some 16), (.mv (.t 0)), none⟩,
      ⟨(some 17), (.mv (.k (I 0))), none⟩])
    (.block 0 (.loop c64L0)))
    c64T4)))) ks fr H ms := rfl
def r64 : List IRes := [(.tmp 4)]
theorem t64 : Try.f64.body.bind (trCode Try.prog Try.f64.ntmps) = some (strip c64) := by kernel_rfl
theorem q64 : trRes Try.prog Try.f64.results.toList = some r64 := by kernel_rfl
theorem fn64 : Try.prog.funcs[64]? = some Try.f64 := by kernel_rfl
theorem nn64 : (Try.f64.name == "runtime.NumGoroutine") = false := by kernel_rfl
theorem nt64 : Try.f64.ntmps = 50 := by kernel_rfl
def c33T4 : ICode :=
  (.keep [] (.seq (.ops [⟨(some 4), (.mv (.k nilSl)), none⟩,
    ⟨(some 5), (.mv (.k (I 4))), none⟩])
  .ret))
theorem w33T4 {x : Cx} {Q : QT} {ks : List Kont} {fr : Fr} {H : AHeap} {ms : List Nat} : W x Q c33T4 ks fr H ms = W x Q (.keep [] (.seq (.ops [⟨(some 4), (.mv (.k nilSl)), none⟩,
      ⟨(some 5), (.mv (.k (I 4))), none⟩])
    .ret)) ks fr H ms := rfl
def c33T3 : ICode :=
  (.keep [0, 1, 13, 14, 15] (.ops [⟨(some 40), (.bin .add (.t 15) (.k (I 1))), none⟩,
    ⟨(some 15), (.mv (.t 40)), none⟩]))
theorem w33T3 {x : Cx} {Q : QT} {ks : List Kont} {fr : Fr} {H : AHeap} {ms : List Nat} : W x Q c33T3 ks fr H ms = W x Q (.keep [0, 1, 13, 14, 15] (.ops [⟨(some 40), (.bin .add (.t 15) (.k (I 1))), none⟩,
      ⟨(some 15), (.mv (.t 40)), none⟩])) ks fr H ms := rfl
def c33T2 : ICode :=
  (.keep [0, 1, 7, 8, 13, 14, 15] (.seq (.ops [⟨(some 38), (.mv (.t 8)), none⟩])
  (.cond (.t 38)
    (.seq (.ops [⟨(some 39), (.mv (.t 7)), none⟩,
      ⟨(some 4), (.mv (.t 39)), none⟩,
      ⟨(some 5), (.mv (.k (I 0))), none⟩])
    .ret)
    .skip)))
theorem w33T2 {x : Cx} {Q : QT} {ks : List Kont} {fr : Fr} {H : AHeap} {ms : List Nat} : W x Q c33T2 ks fr H ms = W x Q (.keep [0, 1, 7, 8, 13, 14, 15] (.seq (.ops [⟨(some 38), (.mv (.t 8)), none⟩])
    (.cond (.t 38)
      (.seq (.ops [⟨(some 39), (.mv (.t 7)), none⟩,
        ⟨(some 4), (.mv (.t 39)), none⟩,
        ⟨(some 5), (.mv (.k (I 0))), none⟩])
      .ret)
      .skip))) ks fr H ms := rfl
/- live: [0, 1, 7, 8, 13, 14, 15, 21, 22, 23] -/
def c33L1 : ICode :=
  (.seq (.ops [⟨(some 24), (.bin .lss (.t 23) (.t 22)), none⟩])
  (.seq (.cond (.t 24)
    .skip
    (.exit 2))
  (.seq (.block 3 (.seq (.ops [⟨(some 25), (.mv (.t 23)), none⟩,
    ⟨(some 26), (.ixS 1 (.t 21) (.t 23)), none⟩,
    ⟨(some 27), (.load false 1 (.t 26)), none⟩,
    ⟨(some 9), (.mv (.t 25)), none⟩,
    ⟨(some 10), (.mv (.t 27)), none⟩])
  (.ops [⟨(some 28), (.mv (.t 8)), none⟩,
    ⟨(some 29), (.mv (.t 28)), none⟩,
    ⟨(some 30), (.mv (.t 10)), (some (29, true))⟩,
    ⟨(some 31), (.mv (.t 1)), (some (29, true))⟩,
    ⟨(some 32), (.mv (.t 9)), (some (29, true))⟩,
    ⟨(some 33), (.ixS 1 (.t 31) (.t 32)), (some (29, true))⟩,
    ⟨(some 34), (.load false 1 (.t 33)), (some (29, true))⟩,
    ⟨(some 35), (.bin .eql (.t 30) (.t 34)), (some (29, true))⟩,
    ⟨(some 36), (.pick (.t 29) (.t 35) (.k (B false))), none⟩,
    ⟨(some 8), (.mv (.t 36)), none⟩])))
  (.ops [⟨(some 37), (.bin .add (.t 23) (.k (I 1))), none⟩,
    ⟨(some 23), (.mv (.t 37)), none⟩]))))
theorem w33L1 {x : Cx} {Q : QT} {ks : List Kont} {fr : Fr} {H : AHeap} {ms : List Nat} : W x Q c33L1 ks fr H ms = W x Q (.seq (.ops [⟨(some 24), (.bin .lss (.t 23) (.t 22)), none⟩])
    (.seq (.cond (.t 24)
      .skip
      (.exit 2))
    (.seq (.block 3 (.seq (.ops [⟨(some 25), (.mv (.t 23)), none⟩,
      ⟨(some 26), (.ixS 1 (.t 21) (.t 23)), none⟩,
      ⟨(some 27), (.load false 1 (.t 26)), none⟩,
      ⟨(some 9), (.mv (.t 25)), none⟩,
      ⟨(some 10), (.mv (.t 27)), none⟩])
    (.ops [⟨(some 28), (.mv (.t 8)), none⟩,
      ⟨(some 29), (.mv (.t 28)), none⟩,
      ⟨(some 30), (.mv (.t 10)), (some (29, true))⟩,
      ⟨(some 31), (.mv (.t 1)), (some (29, true))⟩,
      ⟨(some 32), (.mv (.t 9)), (some (29, true))⟩,
      ⟨(some 33), (.ixS 1 (.t 31) (.t 32)), (some (29, true))⟩,
      ⟨(some 34), (.load false 1 (.t 33)), (some (29, true))⟩,
      ⟨(some 35), (.bin .eql (.t 30) (.t 34)), (some (29, true))⟩,
      ⟨(some 36), (.pick (.t 29) (.t 35) (.k (B false))), none⟩,
      ⟨(some 8), (.mv (.t 36)), none⟩])))
    (.ops [⟨(some 37), (.bin .add (.t 23) (.k (I 1))), none⟩,
      ⟨(some 23), (.mv (.t 37)), none⟩])))) ks fr H ms := rfl
/- live: [0, 1, 13, 14, 15] -/
def c33L0 : ICode :=
  (.seq (.ops [⟨(some 16), (.bin .lss (.t 15) (.t 14)), none⟩])
  (.seq (.cond (.t 16)
    .skip
    (.exit 0))
  (.seq (.block 1 (.seq (.ops [⟨(some 17), (.ixS 1 (.t 13) (.t 15)), none⟩,
    ⟨(some 18), (.load false 1 (.t 17)), none⟩,
    ⟨(some 7), (.mv (.t 18)), none⟩])
  (.seq (.ops [⟨(some 8), (.mv (.k (B true))), none⟩])
  (.seq (.seq (.ops [⟨(some 19), (.mv (.t 0)), none⟩,
    ⟨(some 20), (.mv (.t 7)), none⟩,
    ⟨(some 21), (.call (.k (.fn (.func 32) [] [])) [(.t 19), (.t 20)]), none⟩,
    ⟨(some 22), (.len (.t 21)), none⟩,
    ⟨(some 23), (.mv (.k (I 0))), none⟩])
  (.block 2 (.loop c33L1)))
  c33T2))))
  c33T3)))
theorem w33L0 {x : Cx} {Q : QT} {ks : List Kont} {fr : Fr} {H : AHeap} {ms : List Nat} : W x Q c33L0 ks fr H ms = W x Q (.seq (.ops [⟨(some 16), (.bin .lss (.t 15) (.t 14)), none⟩])
    (.seq (.cond (.t 16)
      .skip
      (.exit 0))
    (.seq (.block 1 (.seq (.ops [⟨(some 17), (.ixS 1 (.t 13) (.t 15)), none⟩,
      ⟨(some 18), (.load false 1 (.t 17)), none⟩,
      ⟨(some 7), (.mv (.t 18)), none⟩])
    (.seq (.ops [⟨(some 8), (.mv (.k (B true))), none⟩])
    (.seq (.seq (.ops [⟨(some 19), (.mv (.t 0)), none⟩,
      ⟨(some 20), (.mv (.t 7)), none⟩,
      ⟨(some 21), (.call (.k (.fn (.func 32) [] [])) [(.t 19), (.t 20)]), none⟩,
      ⟨(some 22), (.len (.t 21)), none⟩,
      ⟨(some 23), (.mv (.k (I 0))), none⟩])
    (.block 2 (.loop c33L1)))
    c33T2))))
    c33T3))) ks fr H ms := rfl
def c33 : ICode :=
  (.seq (.ops [⟨(some 4), (.mv (.k nilSl)), none⟩,
    ⟨(some 5), (.mv (.k (I 0))), none⟩])
  (.seq (.seq (.ops [⟨(some 11), (.mv (.t 0)), none⟩,
    ⟨(some 12), (.len (.t 11)), none⟩,
    ⟨(some 13), (.call (.k (.fn (.func 64) [] [])) [(.t 12), (.k nilSl)]), none⟩,
    ⟨(some 14), (.len (.t 13)), none⟩,
    ⟨(some 15), (.mv (.k (I 0))), none⟩])
  (.block 0 (.loop c33L0)))
  c33T4))
theorem w33 {x : Cx} {Q : QT} {ks : List Kont} {fr : Fr} {H : AHeap} {ms : List Nat} : W x Q c33 ks fr H ms = W x Q (.seq (.ops [⟨(some 4), (.mv (.k nilSl)), none⟩,
      ⟨(some 5), (.mv (.k (I 0))), none⟩])
    (.seq (.seq (.ops [⟨(some 11), (.mv (.t 0)), none⟩,
      ⟨(some 12), (.len (.t 11)), none⟩,
      ⟨(some 13), (.call (.k (.fn (.func 64) [] [])) [(.t 12), (.k nilSl)]), none⟩,
      ⟨(some 14), (.len (.t 13)), none⟩,
      ⟨(some 15), (.mv (.k (I 0))), none⟩])
    (.block 0 (.loop c33L0)))
    c33T4)) ks fr H ms := rfl
def r33 : List IRes := [(.tmp 4), (.tmp 5)]
theorem t33 : Try.f33.body.bind (trCode Try.prog Try.f33.ntmps) = some (strip c33) := by kernel_rfl
theorem q33 : trRes Try.prog Try.f33.results.toList = some r33 := by kernel_rfl
theorem fn33 : Try.prog.funcs[33]? = some Try.f33 := by kernel_rfl
theorem nn33 : (Try.f33.name == "runtime.NumGoroutine") = false := by kernel_rfl
theorem nt33 : Try.f33.ntmps = 41 := by kernel_rfl
def c7T1 : ICode :=
  (.keep [0, 2, 9, 10] (.seq (.ops [⟨(some 64), (.mv (.t 0)), none⟩,
    ⟨(some 65), (.mv (.t 2)), none⟩,
    ⟨(some 66), (.call (.k (.fn (.func 33) [] [])) [(.t 64), (.t 65)]), none⟩,
    ⟨(some 63), (.mv (.t 66)), none⟩,
    ⟨(some 67), (.ext (.t 63) 0), none⟩,
    ⟨(some 68), (.ext (.t 63) 1), none⟩,
    ⟨(some 11), (.mv (.t 67)), none⟩,
    ⟨(some 12), (.mv (.t 68)), none⟩])
  (.seq (.ops [⟨(some 69), (.mv (.t 9)), none⟩,
    ⟨(some 70), (.mv (.t 11)), none⟩,
    ⟨(some 71), (.call (.k (.fn (.func 20) [] [])) [(.t 69), (.t 70)]), none⟩,
    ⟨(some 72), (.mv (.t 71)), none⟩,
    ⟨(some 73), (.mv (.t 10)), (some (72, true))⟩,
    ⟨(some 74), (.mv (.t 12)), (some (72, true))⟩,
    ⟨(some 75), (.bin .eql (.t 73) (.t 74)), (some (72, true))⟩,
    ⟨(some 76), (.pick (.t 72) (.t 75) (.k (B false))), none⟩,
    ⟨(some 77), (.mv (.t 76)), none⟩,
    ⟨(some 78), (.call (.k (.fn (.func 19) [] [])) []), (some (77, true))⟩,
    ⟨(some 79), (.pick (.t 77) (.t 78) (.k (B false))), none⟩,
    ⟨(some 6), (.mv (.t 79)), none⟩])
  .ret)))
theorem w7T1 {x : Cx} {Q : QT} {ks : List Kont} {fr : Fr} {H : AHeap} {ms : List Nat} : W x Q c7T1 ks fr H ms = W x Q (.keep [0, 2, 9, 10] (.seq (.ops [⟨(some 64), (.mv (.t 0)), none⟩,
      ⟨(some 65), (.mv (.t 2)), none⟩,
      ⟨(some 66), (.call (.k (.fn (.func 33) [] [])) [(.t 64), (.t 65)]), none⟩,
      ⟨(some 63), (.mv (.t 66)), none⟩,
      ⟨(some 67), (.ext (.t 63) 0), none⟩,
      ⟨(some 68), (.ext (.t 63) 1), none⟩,
      ⟨(some 11), (.mv (.t 67)), none⟩,
      ⟨(some 12), (.mv (.t 68)), none⟩])
    (.seq (.ops [⟨(some 69), (.mv (.t 9)), none⟩,
      ⟨(some 70), (.mv (.t 11)), none⟩,
      ⟨(some 71), (.call (.k (.fn (.func 20) [] [])) [(.t 69), (.t 70)]), none⟩,
      ⟨(some 72), (.mv (.t 71)), none⟩,
      ⟨(some 73), (.mv (.t 10)), (some (72, true))⟩,
      ⟨(some 74), (.mv (.t 12)), (some (72, true))⟩,
      ⟨(some 75), (.bin .eql (.t 73) (.t 74)), (some (72, true))⟩,
      ⟨(some 76), (.pick (.t 72) (.t 75) (.k (B false))), none⟩,
      ⟨(some 77), (.mv (.t 76)), none⟩,
      ⟨(some 78), (.call (.k (.fn (.func 19) [] [])) []), (some (77, true))⟩,
      ⟨(some 79), (.pick (.t 77) (.t 78) (.k (B false))), none⟩,
      ⟨(some 6), (.mv (.t 79)), none⟩])
    .ret))) ks fr H ms := rfl
def c7T0 : ICode :=
  (.keep [0, 2, 9, 10] (.seq (.seq (.ops [⟨(some 49), (.mv (.t 0)), none⟩,
    ⟨(some 50), (.mv (.t 2)), none⟩,
    ⟨(some 51), (.call (.k (.fn (.func 28) [] [])) [(.t 49), (.t 50)]), none⟩,
    ⟨(some 52), (.un .not (.t 51)), none⟩])
  (.cond (.t 52)
    (.seq (.ops [⟨(some 53), (.mv (.t 9)), none⟩,
      ⟨(some 54), (.len (.t 53)), none⟩,
      ⟨(some 55), (.bin .eql (.t 54) (.k (I 0))), none⟩,
      ⟨(some 56), (.mv (.t 55)), none⟩,
      ⟨(some 57), (.mv (.t 10)), (some (56, true))⟩,
      ⟨(some 58), (.bin .eql (.t 57) (.k (I 2))), (some (56, true))⟩,
      ⟨(some 59), (.pick (.t 56) (.t 58) (.k (B false))), none⟩,
      ⟨(some 60), (.mv (.t 59)), none⟩,
      ⟨(some 61), (.call (.k (.fn (.func 19) [] [])) []), (some (60, true))⟩,
      ⟨(some 62), (.pick (.t 60) (.t 61) (.k (B false))), none⟩,
      ⟨(some 6), (.mv (.t 62)), none⟩])
    .ret)
    .skip))
  c7T1))
theorem w7T0 {x : Cx} {Q : QT} {ks : List Kont} {fr : Fr} {H : AHeap} {ms : List Nat} : W x Q c7T0 ks fr H ms = W x Q (.keep [0, 2, 9, 10] (.seq (.seq (.ops [⟨(some 49), (.mv (.t 0)), none⟩,
      ⟨(some 50), (.mv (.t 2)), none⟩,
      ⟨(some 51), (.call (.k (.fn (.func 28) [] [])) [(.t 49), (.t 50)]), none⟩,
      ⟨(some 52), (.un .not (.t 51)), none⟩])
    (.cond (.t 52)
      (.seq (.ops [⟨(some 53), (.mv (.t 9)), none⟩,
        ⟨(some 54), (.len (.t 53)), none⟩,
        ⟨(some 55), (.bin .eql (.t 54) (.k (I 0))), none⟩,
        ⟨(some 56), (.mv (.t 55)), none⟩,
        ⟨(some 57), (.mv (.t 10)), (some (56, true))⟩,
        ⟨(some 58), (.bin .eql (.t 57) (.k (I 2))), (some (56, true))⟩,
        ⟨(some 59), (.pick (.t 56) (.t 58) (.k (B false))), none⟩,
        ⟨(some 60), (.mv (.t 59)), none⟩,
        ⟨(some 61), (.call (.k (.fn (.func 19) [] [])) []), (some (60, true))⟩,
        ⟨(some 62), (.pick (.t 60) (.t 61) (.k (B false))), none⟩,
        ⟨(some 6), (.mv (.t 62)), none⟩])
      .ret)
      .skip))
    c7T1)) ks fr H ms := rfl
def c7 : ICode :=
  (.seq (.ops [⟨(some 6), (.mv (.k (B false))), none⟩])
  (.seq (.ops [⟨(some 14), (.mv (.t 0)), none⟩,
    ⟨(some 15), (.call (.k (.fn (.func 16) [] [])) [(.t 14)]), none⟩,
    ⟨(some 16), (.mv (.t 1)), none⟩,
    ⟨(some 17), (.call (.k (.fn (.func 27) [] [])) [(.t 16)]), none⟩,
    ⟨(some 18), (.call (.k (.fn (.func 30) [] [])) [(.t 15), (.t 17)]), none⟩,
    ⟨(some 13), (.mv (.t 18)), none⟩,
    ⟨(some 19), (.ext (.t 13) 0), none⟩,
    ⟨(some 20), (.ext (.t 13) 1), none⟩,
    ⟨(some 7), (.mv (.t 19)), none⟩,
    ⟨(some 8), (.mv (.t 20)), none⟩])
  (.seq (.ops [⟨(some 22), (.mv (.t 0)), none⟩,
    ⟨(some 23), (.call (.k (.fn (.func 16) [] [])) [(.t 22)]), none⟩,
    ⟨(some 24), (.mv (.t 2)), none⟩,
    ⟨(some 25), (.call (.k (.fn (.func 27) [] [])) [(.t 24)]), none⟩,
    ⟨(some 26), (.call (.k (.fn (.func 31) [] [])) [(.t 23), (.t 25)]), none⟩,
    ⟨(some 21), (.mv (.t 26)), none⟩,
    ⟨(some 27), (.ext (.t 21) 0), none⟩,
    ⟨(some 28), (.ext (.t 21) 1), none⟩,
    ⟨(some 9), (.mv (.t 27)), none⟩,
    ⟨(some 10), (.mv (.t 28)), none⟩])
  (.seq (.seq (.ops [⟨(some 29), (.mv (.t 0)), none⟩,
    ⟨(some 30), (.mv (.t 1)), none⟩,
    ⟨(some 31), (.call (.k (.fn (.func 28) [] [])) [(.t 29), (.t 30)]), none⟩])
  (.cond (.t 31)
    (.seq (.ops [⟨(some 32), (.mv (.t 7)), none⟩,
      ⟨(some 33), (.mv (.t 0)), none⟩,
      ⟨(some 34), (.mv (.t 1)), none⟩,
      ⟨(some 35), (.call (.k (.fn (.func 32) [] [])) [(.t 33), (.t 34)]), none⟩,
      ⟨(some 36), (.call (.k (.fn (.func 20) [] [])) [(.t 32), (.t 35)]), none⟩,
      ⟨(some 37), (.un .not (.t 36)), none⟩,
      ⟨(some 38), (.mv (.t 37)), none⟩,
      ⟨(some 39), (.mv (.t 8)), (some (38, false))⟩,
      ⟨(some 40), (.bin .neq (.t 39) (.k (I 0))), (some (38, false))⟩,
      ⟨(some 41), (.pick (.t 38) (.k (B true)) (.t 40)), none⟩])
    (.cond (.t 41)
      (.seq (.ops [⟨(some 6), (.mv (.k (B false))), none⟩])
      .ret)
      .skip))
    (.seq (.ops [⟨(some 42), (.mv (.t 7)), none⟩,
      ⟨(some 43), (.len (.t 42)), none⟩,
      ⟨(some 44), (.bin .neq (.t 43) (.k (I 0))), none⟩,
      ⟨(some 45), (.mv (.t 44)), none⟩,
      ⟨(some 46), (.mv (.t 8)), (some (45, false))⟩,
      ⟨(some 47), (.bin .neq (.t 46) (.k (I 2))), (some (45, false))⟩,
      ⟨(some 48), (.pick (.t 45) (.k (B true)) (.t 47)), none⟩])
    (.cond (.t 48)
      (.seq (.ops [⟨(some 6), (.mv (.k (B false))), none⟩])
      .ret)
      .skip))))
  c7T0))))
theorem w7 {x : Cx} {Q : QT} {ks : List Kont} {fr : Fr} {H : AHeap} {ms : List Nat} : W x Q c7 ks fr H ms = W x Q (.seq (.ops [⟨(some 6), (.mv (.k (B false))), none⟩])
    (.seq (.ops [⟨(some 14), (.mv (.t 0)), none⟩,
      ⟨(some 15), (.call (.k (.fn (.func 16) [] [])) [(.t 14)]), none⟩,
      ⟨(some 16), (.mv (.t 1)), none⟩,
      ⟨(some 17), (.call (.k (.fn (.func 27) [] [])) [(.t 16)]), none⟩,
      ⟨(some 18), (.call (.k (.fn (.func 30) [] [])) [(.t 15), (.t 17)]), none⟩,
      ⟨(some 13), (.mv (.t 18)), none⟩,
      ⟨(some 19), (.ext (.t 13) 0), none⟩,
      ⟨(some 20), (.ext (.t 13) 1), none⟩,
      ⟨(some 7), (.mv (.t 19)), none⟩,
      ⟨(some 8), (.mv (.t 20)), none⟩])
    (.seq (.ops [⟨(some 22), (.mv (.t 0)), none⟩,
      ⟨(some 23), (.call (.k (.fn (.func 16) [] [])) [(.t 22)]), none⟩,
      ⟨(some 24), (.mv (.t 2)), none⟩,
      ⟨(some 25), (.call (.k (.fn (.func 27) [] [])) [(.t 24)]), none⟩,
      ⟨(some 26), (.call (.k (.fn (.func 31) [] [])) [(.t 23), (.t 25)]), none⟩,
      ⟨(some 21), (.mv (.t 26)), none⟩,
      ⟨(some 27), (.ext (.t 21) 0), none⟩,
      ⟨(some 28), (.ext (.t 21) 1), none⟩,
      ⟨(some 9), (.mv (.t 27)), none⟩,
      ⟨(some 10), (.mv (.t 28)), none⟩])
    (.seq (.seq (.ops [⟨(some 29), (.mv (.t 0)), none⟩,
      ⟨(some 30), (.mv (.t 1)), none⟩,
      ⟨(some 31), (.call (.k (.fn (.func 28) [] [])) [(.t 29), (.t 30)]), none⟩])
    (.cond (.t 31)
      (.seq (.ops [⟨(some 32), (.mv (.t 7)), none⟩,
        ⟨(some 33), (.mv (.t 0)), none⟩,
        ⟨(some 34), (.mv (.t 1)), none⟩,
        ⟨(some 35), (.call (.k (.fn (.func 32) [] [])) [(.t 33), (.t 34)]), none⟩,
        ⟨(some 36), (.call (.k (.fn (.func 20) [] [])) [(.t 32), (.t 35)]), none⟩,
        ⟨(some 37), (.un .not (.t 36)), none⟩,
        ⟨(some 38), (.mv (.t 37)), none⟩,
        ⟨(some 39), (.mv (.t 8)), (some (38, false))⟩,
        ⟨(some 40), (.bin .neq (.t 39) (.k (I 0))), (some (38, false))⟩,
        ⟨(some 41), (.pick (.t 38) (.k (B true)) (.t 40)), none⟩])
      (.cond (.t 41)
        (.seq (.ops [⟨(some 6), (.mv (.k (B false))), none⟩])
        .ret)
        .skip))
      (.seq (.ops [⟨(some 42), (.mv (.t 7)), none⟩,
        ⟨(some 43), (.len (.t 42)), none⟩,
        ⟨(some 44), (.bin .neq (.t 43) (.k (I 0))), none⟩,
        ⟨(some 45), (.mv (.t 44)), none⟩,
        ⟨(some 46), (.mv (.t 8)), (some (45, false))⟩,
        ⟨(some 47), (.bin .neq (.t 46) (.k (I 2))), (some (45, false))⟩,
        ⟨(some 48), (.pick (.t 45) (.k (B true)) (.t 47)), none⟩])
      (.cond (.t 48)
        (.seq (.ops [⟨(some 6), (.mv (.k (B false))), none⟩])
        .ret)
        .skip))))
    c7T0)))) ks fr H ms := rfl
def r7 : List IRes := [(.tmp 6)]
theorem t7 : Try.f7.body.bind (trCode Try.prog Try.f7.ntmps) = some (strip c7) := by kernel_rfl
theorem q7 : trRes Try.prog Try.f7.results.toList = some r7 := by kernel_rfl
theorem fn7 : Try.prog.funcs[7]? = some Try.f7 := by kernel_rfl
theorem nn7 : (Try.f7.name == "runtime.NumGoroutine") = false := by kernel_rfl
theorem nt7 : Try.f7.ntmps = 80 := by kernel_rfl
end Go.Proofs.Ytkmmngphcodjjaa

namespace Go.Proofs.Ytkmmngphcodjjaa
open Go.Abs AVal
def c37 : ICode :=
  (.seq (.ops [⟨(some 4), (.mv (.k (I 0))), none⟩,
    ⟨(some 5), (.mv (.k (I 0))), none⟩])
  (.seq (.ops [⟨(some 6), (.mv (.t 0)), none⟩,
    ⟨(some 7), (.mv (.t 1)), none⟩,
    ⟨(some 8), (.call (.k (.fn (.func 66) [] [])) [(.t 6), (.t 7), (.k (B false))]), none⟩,
    ⟨(some 9), (.ext (.t 8) 0), none⟩,
    ⟨(some 10), (.ext (.t 8) 1), none⟩,
    ⟨(some 4), (.mv (.t 9)), none⟩,
    ⟨(some 5), (.mv (.t 10)), none⟩])
  .ret))
theorem w37 {x : Cx} {Q : QT} {ks : List Kont} {fr : Fr} {H : AHeap} {ms : List Nat} : W x Q c37 ks fr H ms = W x Q (.seq (.ops [⟨(some 4), (.mv (.k (I 0))), none⟩,
      ⟨(some 5), (.mv (.k (I 0))), none⟩])
    (.seq (.ops [⟨(some 6), (.mv (.t 0)), none⟩,
      ⟨(some 7), (.mv (.t 1)), none⟩,
      ⟨(some 8), (.call (.k (.fn (.func 66) [] [])) [(.t 6), (.t 7), (.k (B false))]), none⟩,
      ⟨(some 9), (.ext (.t 8) 0), none⟩,
      ⟨(some 10), (.ext (.t 8) 1), none⟩,
      ⟨(some 4), (.mv (.t 9)), none⟩,
      ⟨(some 5), (.mv (.t 10)), none⟩])
    .ret)) ks fr H ms := rfl
def r37 : List IRes := [(.tmp 4), (.tmp 5)]
theorem t37 : Try.f37.body.bind (trCode Try.prog Try.f37.ntmps) = some (strip c37) := by kernel_rfl
theorem q37 : trRes Try.prog Try.f37.results.toList = some r37 := by kernel_rfl
theorem fn37 : Try.prog.funcs[37]? = some Try.f37 := by kernel_rfl
theorem nn37 : (Try.f37.name == "runtime.NumGoroutine") = false := by kernel_rfl
theorem nt37 : Try.f37.ntmps = 11 := by kernel_rfl
def c38 : ICode :=
  (.seq (.ops [⟨(some 4), (.mv (.k (I 0))), none⟩,
    ⟨(some 5), (.mv (.k (I 0))), none⟩])
  (.seq (.ops [⟨(some 6), (.mv (.t 0)), none⟩,
    ⟨(some 7), (.mv (.t 1)), none⟩,
    ⟨(some 8), (.call (.k (.fn (.func 66) [] [])) [(.t 6), (.t 7), (.k (B true))]), none⟩,
    ⟨(some 9), (.ext (.t 8) 0), none⟩,
    ⟨(some 10), (.ext (.t 8) 1), none⟩,
    ⟨(some 4), (.mv (.t 9)), none⟩,
    ⟨(some 5), (.mv (.t 10)), none⟩])
  .ret))
theorem w38 {x : Cx} {Q : QT} {ks : List Kont} {fr : Fr} {H : AHeap} {ms : List Nat} : W x Q c38 ks fr H ms = W x Q (.seq (.ops [⟨(some 4), (.mv (.k (I 0))), none⟩,
      ⟨(some 5), (.mv (.k (I 0))), none⟩])
    (.seq (.ops [⟨(some 6), (.mv (.t 0)), none⟩,
      ⟨(some 7), (.mv (.t 1)), none⟩,
      ⟨(some 8), (.call (.k (.fn (.func 66) [] [])) [(.t 6), (.t 7), (.k (B true))]), none⟩,
      ⟨(some 9), (.ext (.t 8) 0), none⟩,
      ⟨(some 10), (.ext (.t 8) 1), none⟩,
      ⟨(some 4), (.mv (.t 9)), none⟩,
      ⟨(some 5), (.mv (.t 10)), none⟩])
    .ret)) ks fr H ms := rfl
def r38 : List IRes := [(.tmp 4), (.tmp 5)]
theorem t38 : Try.f38.body.bind (trCode Try.prog Try.f38.ntmps) = some (strip c38) := by kernel_rfl
theorem q38 : trRes Try.prog Try.f38.results.toList = some r38 := by kernel_rfl
theorem fn38 : Try.prog.funcs[38]? = some Try.f38 := by kernel_rfl
theorem nn38 : (Try.f38.name == "runtime.NumGoroutine") = false := by kernel_rfl
theorem nt38 : Try.f38.ntmps = 11 := by kernel_rfl
def c39R0a : ICode :=
  (.ops [⟨(some 7), (.mv (.t 28)), none⟩])
theorem w39R0a {x : Cx} {Q : QT} {ks : List Kont} {fr : Fr} {H : AHeap} {ms : List Nat} : W x Q c39R0a ks fr H ms = W x Q (.ops [⟨(some 7), (.mv (.t 28)), none⟩]) ks fr H ms := rfl
theorem t39R0a : trCode Try.prog 48 (asOf Try.f39 0) = some (strip c39R0a) := by kernel_rfl
def c39R0b : ICode :=
  (.block 1 (.seq (.draw 0 [] (.early 1 ⟨(some 30), (.load false 1 (.t 6)), none⟩
    (.early 1 ⟨(some 31), (.load false 1 (.t 2)), none⟩
    (.early 1 ⟨(some 32), (.len (.t 31)), none⟩
    (.early 1 ⟨(some 33), (.bin .shl (.k (I 1)) (.t 32)), none⟩
    (.early 1 ⟨(some 34), (.bin .sub (.t 33) (.k (I 1))), none⟩
    (.early 1 ⟨(some 35), (.mv (.t 7)), none⟩
    (.early 1 ⟨(some 36), (.load false 1 (.t 3)), none⟩
    (.step 0 0 ⟨(some 37), (.call (.k (.fn (.func 67) [] [])) [(.t 30), (.t 34), (.t 35), (.t 36)]), none⟩
    (.early 0 ⟨(some 29), (.mv (.t 37)), none⟩
    (.early 1 ⟨(some 38), (.ext (.t 29) 0), none⟩
    (.early 1 ⟨(some 39), (.ext (.t 29) 1), none⟩
    (.early 1 ⟨(some 8), (.mv (.t 38)), none⟩
    (.early 0 ⟨(some 9), (.mv (.t 39)), none⟩
    .done))))))))))))))
  (.seq (.ops [⟨(some 40), (.mv (.t 9)), none⟩,
    ⟨(some 41), (.bin .eql (.t 40) (.k (I 0))), none⟩,
    ⟨(some 42), (.mv (.t 41)), none⟩,
    ⟨(some 43), (.mv (.t 8)), (some (42, true))⟩,
    ⟨(some 44), (.bin .gtr (.t 43) (.k (I 0))), (some (42, true))⟩,
    ⟨(some 45), (.pick (.t 42) (.t 44) (.k (B false))), none⟩])
  (.cond (.t 45)
    (.seq (.ops [⟨(some 46), (.mv (.t 7)), none⟩,
      ⟨(some 47), (.call (.k (.fn (.func 43) [] [])) [(.t 46)]), none⟩,
      ⟨none, (.store 1 (.t 4) (.t 47)), none⟩,
      ⟨none, (.store 1 (.t 5) (.k (I 0))), none⟩])
    .ret)
    .skip))))
theorem w39R0b {x : Cx} {Q : QT} {ks : List Kont} {fr : Fr} {H : AHeap} {ms : List Nat} : W x Q c39R0b ks fr H ms = W x Q (.block 1 (.seq (.draw 0 [] (.early 1 ⟨(some 30), (.load false 1 (.t 6)), none⟩
      (.early 1 ⟨(some 31), (.load false 1 (.t 2)), none⟩
      (.early 1 ⟨(some 32), (.len (.t 31)), none⟩
      (.early 1 ⟨(some 33), (.bin .shl (.k (I 1)) (.t 32)), none⟩
      (.early 1 ⟨(some 34), (.bin .sub (.t 33) (.k (I 1))), none⟩
      (.early 1 ⟨(some 35), (.mv (.t 7)), none⟩
      (.early 1 ⟨(some 36), (.load false 1 (.t 3)), none⟩
      (.step 0 0 ⟨(some 37), (.call (.k (.fn (.func 67) [] [])) [(.t 30), (.t 34), (.t 35), (.t 36)]), none⟩
      (.early 0 ⟨(some 29), (.mv (.t 37)), none⟩
      (.early 1 ⟨(some 38), (.ext (.t 29) 0), none⟩
      (.early 1 ⟨(some 39), (.ext (.t 29) 1), none⟩
      (.early 1 ⟨(some 8), (.mv (.t 38)), none⟩
      (.early 0 ⟨(some 9), (.mv (.t 39)), none⟩
      .done))))))))))))))
    (.seq (.ops [⟨(some 40), (.mv (.t 9)), none⟩,
      ⟨(some 41), (.bin .eql (.t 40) (.k (I 0))), none⟩,
      ⟨(some 42), (.mv (.t 41)), none⟩,
      ⟨(some 43), (.mv (.t 8)), (some (42, true))⟩,
      ⟨(some 44), (.bin .gtr (.t 43) (.k (I 0))), (some (42, true))⟩,
      ⟨(some 45), (.pick (.t 42) (.t 44) (.k (B false))), none⟩])
    (.cond (.t 45)
      (.seq (.ops [⟨(some 46), (.mv (.t 7)), none⟩,
        ⟨(some 47), (.call (.k (.fn (.func 43) [] [])) [(.t 46)]), none⟩,
        ⟨none, (.store 1 (.t 4) (.t 47)), none⟩,
        ⟨none, (.store 1 (.t 5) (.k (I 0))), none⟩])
      .ret)
      .skip)))) ks fr H ms := rfl
theorem t39R0b : trCode Try.prog 48 (bdOf Try.f39 0) = some (strip c39R0b) := by kernel_rfl
def c39T0 : ICode :=
  (.seq (.ops [⟨none, (.store 1 (.t 4) (.k nilSl)), none⟩,
    ⟨none, (.store 1 (.t 5) (.k (I 4))), none⟩])
  .ret)
theorem w39T0 {x : Cx} {Q : QT} {ks : List Kont} {fr : Fr} {H : AHeap} {ms : List Nat} : W x Q c39T0 ks fr H ms = W x Q (.seq (.ops [⟨none, (.store 1 (.t 4) (.k nilSl)), none⟩,
      ⟨none, (.store 1 (.t 5) (.k (I 4))), none⟩])
    .ret) ks fr H ms := rfl
noncomputable def c39 : ICode :=
  (.seq (.ops [⟨(some 2), (.box (.t 0)), none⟩,
    ⟨(some 3), (.box (.t 1)), none⟩,
    ⟨(some 4), (.alloc [nilSl]), none⟩,
    ⟨(some 5), (.alloc [(I 0)]), none⟩])
  (.seq (.ops [⟨(some 10), (.load false 1 (.t 2)), none⟩,
    ⟨(some 6), (.alloc [nilSl]), none⟩,
    ⟨none, (.store 1 (.t 6) (.t 10)), none⟩])
  (.seq (.seq (.ops [⟨(some 11), (.load false 1 (.t 6)), none⟩,
    ⟨(some 12), (.call (.k (.fn (.func 55) [] [])) [(.t 11)]), none⟩,
    ⟨(some 13), (.un .not (.t 12)), none⟩,
    ⟨(some 14), (.mv (.t 13)), none⟩,
    ⟨(some 15), (.load false 1 (.t 3)), (some (14, false))⟩,
    ⟨(some 16), (.load false 1 (.t 2)), (some (14, false))⟩,
    ⟨(some 17), (.len (.t 16)), (some (14, false))⟩,
    ⟨(some 18), (.call (.k (.fn (.func 59) [] [])) [(.t 15), (.t 17)]), (some (14, false))⟩,
    ⟨(some 19), (.un .not (.t 18)), (some (14, false))⟩,
    ⟨(some 20), (.pick (.t 14) (.k (B true)) (.t 19)), none⟩])
  (.cond (.t 20)
    (.seq (.ops [⟨none, (.store 1 (.t 4) (.k nilSl)), none⟩,
      ⟨none, (.store 1 (.t 5) (.k (I 2))), none⟩])
    .ret)
    .skip))
  (.seq (.seq (.draw 0 [] (.early 1 ⟨(some 21), (.load false 1 (.t 2)), none⟩
    (.early 1 ⟨(some 22), (.len (.t 21)), none⟩
    (.early 1 ⟨(some 23), (.load false 1 (.t 2)), none⟩
    (.early 1 ⟨(some 24), (.len (.t 23)), none⟩
    (.early 1 ⟨(some 25), (.bin .shl (.k (I 1)) (.t 24)), none⟩
    (.early 1 ⟨(some 26), (.bin .sub (.t 25) (.k (I 1))), none⟩
    (.step 0 0 ⟨(some 27), (.call (.k (.fn (.func 63) [] [])) [(.t 22), (.t 26)]), none⟩
    .done))))))))
  (.block 0 (.range (.t 27) [28] (asOf Try.f39 0) (bdOf Try.f39 0))))
  c39T0))))
theorem w39 {x : Cx} {Q : QT} {ks : List Kont} {fr : Fr} {H : AHeap} {ms : List Nat} : W x Q c39 ks fr H ms = W x Q (.seq (.ops [⟨(some 2), (.box (.t 0)), none⟩,
      ⟨(some 3), (.box (.t 1)), none⟩,
      ⟨(some 4), (.alloc [nilSl]), none⟩,
      ⟨(some 5), (.alloc [(I 0)]), none⟩])
    (.seq (.ops [⟨(some 10), (.load false 1 (.t 2)), none⟩,
      ⟨(some 6), (.alloc [nilSl]), none⟩,
      ⟨none, (.store 1 (.t 6) (.t 10)), none⟩])
    (.seq (.seq (.ops [⟨(some 11), (.load false 1 (.t 6)), none⟩,
      ⟨(some 12), (.call (.k (.fn (.func 55) [] [])) [(.t 11)]), none⟩,
      ⟨(some 13), (.un .not (.t 12)), none⟩,
      ⟨(some 14), (.mv (.t 13)), none⟩,
      ⟨(some 15), (.load false 1 (.t 3)), (some (14, false))⟩,
      ⟨(some 16), (.load false 1 (.t 2)), (some (14, false))⟩,
      ⟨(some 17), (.len (.t 16)), (some (14, false))⟩,
      ⟨(some 18), (.call (.k (.fn (.func 59) [] [])) [(.t 15), (.t 17)]), (some (14, false))⟩,
      ⟨(some 19), (.un .not (.t 18)), (some (14, false))⟩,
      ⟨(some 20), (.pick (.t 14) (.k (B true)) (.t 19)), none⟩])
    (.cond (.t 20)
      (.seq (.ops [⟨none, (.store 1 (.t 4) (.k nilSl)), none⟩,
        ⟨none, (.store 1 (.t 5) (.k (I 2))), none⟩])
      .ret)
      .skip))
    (.seq (.seq (.draw 0 [] (.early 1 ⟨(some 21), (.load false 1 (.t 2)), none⟩
      (.early 1 ⟨(some 22), (.len (.t 21)), none⟩
      (.early 1 ⟨(some 23), (.load false 1 (.t 2)), none⟩
      (.early 1 ⟨(some 24), (.len (.t 23)), none⟩
      (.early 1 ⟨(some 25), (.bin .shl (.k (I 1)) (.t 24)), none⟩
      (.early 1 ⟨(some 26), (.bin .sub (.t 25) (.k (I 1))), none⟩
      (.step 0 0 ⟨(some 27), (.call (.k (.fn (.func 63) [] [])) [(.t 22), (.t 26)]), none⟩
      .done))))))))
    (.block 0 (.range (.t 27) [28] (asOf Try.f39 0) (bdOf Try.f39 0))))
    c39T0)))) ks fr H ms := rfl
def r39 : List IRes := [(.cell false 1 4), (.cell false 1 5)]
theorem t39 : Try.f39.body.bind (trCode Try.prog Try.f39.ntmps) = some (strip c39) := by kernel_rfl
theorem q39 : trRes Try.prog Try.f39.results.toList = some r39 := by kernel_rfl
theorem fn39 : Try.prog.funcs[39]? = some Try.f39 := by kernel_rfl
theorem nn39 : (Try.f39.name == "runtime.NumGoroutine") = false := by kernel_rfl
theorem nt39 : Try.f39.ntmps = 48 := by kernel_rfl
def c66T1 : ICode :=
  (.keep [] (.seq (.ops [⟨(some 6), (.mv (.k (I 0))), none⟩,
    ⟨(some 7), (.mv (.k (I 4))), none⟩])
  .ret))
theorem w66T1 {x : Cx} {Q : QT} {ks : List Kont} {fr : Fr} {H : AHeap} {ms : List Nat} : W x Q c66T1 ks fr H ms = W x Q (.keep [] (.seq (.ops [⟨(some 6), (.mv (.k (I 0))), none⟩,
      ⟨(some 7), (.mv (.k (I 4))), none⟩])
    .ret)) ks fr H ms := rfl
/- live: [0, 1, 2, 8, 9] -/
def c66L0 : ICode :=
  (.seq (.seq (.ops [⟨(some 21), (.mv (.t 9)), none⟩,
    ⟨(some 22), (.mv (.t 0)), none⟩,
    ⟨(some 23), (.len (.t 22)), none⟩,
    ⟨(some 24), (.bin .shl (.k (I 1)) (.t 23)), none⟩,
    ⟨(some 25), (.bin .lss (.t 21) (.t 24)), none⟩])
  (.cond (.t 25)
    .skip
    (.exit 0)))
  (.seq (.block 1 (.seq (.ops [⟨(some 28), (.mv (.t 8)), none⟩,
    ⟨(some 29), (.mv (.t 9)), none⟩,
    ⟨(some 30), (.mv (.t 1)), none⟩,
    ⟨(some 31), (.mv (.t 2)), none⟩,
    ⟨(some 32), (.call (.k (.fn (.func 84) [] [])) [(.t 28), (.t 29), (.t 30), (.t 31)]), none⟩])
  (.cond (.t 32)
    (.seq (.ops [⟨(some 33), (.mv (.t 9)), none⟩,
      ⟨(some 6), (.mv (.t 33)), none⟩,
      ⟨(some 7), (.mv (.k (I 0))), none⟩])
    .ret)
    .skip)))
  (.ops [⟨(some 26), (.mv (.t 9)), none⟩,
    ⟨(some 27), (.bin .add (.t 26) (.k (I 1))), none⟩,
    ⟨(some 9), (.mv (.t 27)), none⟩])))
theorem w66L0 {x : Cx} {Q : QT} {ks : List Kont} {fr : Fr} {H : AHeap} {ms : List Nat} : W x Q c66L0 ks fr H ms = W x Q (.seq (.seq (.ops [⟨(some 21), (.mv (.t 9)), none⟩,
      ⟨(some 22), (.mv (.t 0)), none⟩,
      ⟨(some 23), (.len (.t 22)), none⟩,
      ⟨(some 24), (.bin .shl (.k (I 1)) (.t 23)), none⟩,
      ⟨(some 25), (.bin .lss (.t 21) (.t 24)), none⟩])
    (.cond (.t 25)
      .skip
      (.exit 0)))
    (.seq (.block 1 (.seq (.ops [⟨(some 28), (.mv (.t 8)), none⟩,
      ⟨(some 29), (.mv (.t 9)), none⟩,
      ⟨(some 30), (.mv (.t 1)), none⟩,
      ⟨(some 31), (.mv (.t 2)), none⟩,
      ⟨(some 32), (.call (.k (.fn (.func 84) [] [])) [(.t 28), (.t 29), (.t 30), (.t 31)]), none⟩])
    (.cond (.t 32)
      (.seq (.ops [⟨(some 33), (.mv (.t 9)), none⟩,
        ⟨(some 6), (.mv (.t 33)), none⟩,
        ⟨(some 7), (.mv (.k (I 0))), none⟩])
      .ret)
      .skip)))
    (.ops [⟨(some 26), (.mv (.t 9)), none⟩,
      ⟨(some 27), (.bin .add (.t 26) (.k (I 1))), none⟩,
      ⟨(some 9), (.mv (.t 27)), none⟩]))) ks fr H ms := rfl
def c66 : ICode :=
  (.seq (.ops [⟨(some 6), (.mv (.k (I 0))), none⟩,
    ⟨(some 7), (.mv (.k (I 0))), none⟩])
  (.seq (.ops [⟨(some 10), (.mv (.t 0)), none⟩,
    ⟨(some 8), (.mv (.t 10)), none⟩])
  (.seq (.seq (.ops [⟨(some 11), (.mv (.t 8)), none⟩,
    ⟨(some 12), (.call (.k (.fn (.func 55) [] [])) [(.t 11)]), none⟩,
    ⟨(some 13), (.un .not (.t 12)), none⟩,
    ⟨(some 14), (.mv (.t 13)), none⟩,
    ⟨(some 15), (.mv (.t 1)), (some (14, false))⟩,
    ⟨(some 16), (.mv (.t 0)), (some (14, false))⟩,
    ⟨(some 17), (.len (.t 16)), (some (14, false))⟩,
    ⟨(some 18), (.call (.k (.fn (.func 59) [] [])) [(.t 15), (.t 17)]), (some (14, false))⟩,
    ⟨(some 19), (.un .not (.t 18)), (some (14, false))⟩,
    ⟨(some 20), (.pick (.t 14) (.k (B true)) (.t 19)), none⟩])
  (.cond (.t 20)
    (.seq (.ops [⟨(some 6), (.mv (.k (I 0))), none⟩,
      ⟨(some 7), (.mv (.k (I 2))), none⟩])
    .ret)
    .skip))
  (.seq (.seq (.ops [⟨(some 9), (.mv (.k (I 1))), none⟩])
  (.block 0 (.loop c66L0)))
  c66T1))))
theorem w66 {x : Cx} {Q : QT} {ks : List Kont} {fr : Fr} {H : AHeap} {ms : List Nat} : W x Q c66 ks fr H ms = W x Q (.seq (.ops [⟨(some 6), (.mv (.k (I 0))), none⟩,
      ⟨(some 7), (.mv (.k (I 0))), none⟩])
    (.seq (.ops [⟨(some 10), (.mv (.t 0)), none⟩,
      ⟨(some 8), (.mv (.t 10)), none⟩])
    (.seq (.seq (.ops [⟨(some 11), (.mv (.t 8)), none⟩,
      ⟨(some 12), (.call (.k (.fn (.func 55) [] [])) [(.t 11)]), none⟩,
      ⟨(some 13), (.un .not (.t 12)), none⟩,
      ⟨(some 14), (.mv (.t 13)), none⟩,
      ⟨(some 15), (.mv (.t 1)), (some (14, false))⟩,
      ⟨(some 16), (.mv (.t 0)), (some (14, false))⟩,
      ⟨(some 17), (.len (.t 16)), (some (14, false))⟩,
      ⟨(some 18), (.call (.k (.fn (.func 59) [] [])) [(.t 15), (.t 17)]), (some (14, false))⟩,
      ⟨(some 19), (.un .not (.t 18)), (some (14, false))⟩,
      ⟨(some 20), (.pick (.t 14) (.k (B true)) (.t 19)), none⟩])
    (.cond (.t 20)
      (.seq (.ops [⟨(some 6), (.mv (.k (I 0))), none⟩,
        ⟨(some 7), (.mv (.k (I 2))), none⟩])
      .ret)
      .skip))
    (.seq (.seq (.ops [⟨(some 9), (.mv (.k (I 1))), none⟩])
    (.block 0 (.loop c66L0)))
    c66T1)))) ks fr H ms := rfl
def r66 : List IRes := [(.tmp 6), (.tmp 7)]
theorem t66 : Try.f66.body.bind (trCode Try.prog Try.f66.ntmps) = some (strip c66) := by kernel_rfl
theorem q66 : trRes Try.prog Try.f66.results.toList = some r66 := by kernel_rfl
theorem fn66 : Try.prog.funcs[66]? = some Try.f66 := by kernel_rfl
theorem nn66 : (Try.f66.name == "runtime.NumGoroutine") = false := by kernel_rfl
theorem nt66 : Try.f66.ntmps = 34 := by kernel_rfl
def c67T1 : ICode :=
  (.keep [8, 9] (.seq (.ops [⟨(some 50), (.mv (.t 8)), none⟩,
    ⟨(some 51), (.mv (.t 9)), none⟩,
    ⟨(some 8), (.mv (.t 50)), none⟩,
    ⟨(some 9), (.mv (.t 51)), none⟩])
  .ret))
theorem w67T1 {x : Cx} {Q : QT} {ks : List Kont} {fr : Fr} {H : AHeap} {ms : List Nat} : W x Q c67T1 ks fr H ms = W x Q (.keep [8, 9] (.seq (.ops [⟨(some 50), (.mv (.t 8)), none⟩,
      ⟨(some 51), (.mv (.t 9)), none⟩,
      ⟨(some 8), (.mv (.t 50)), none⟩,
      ⟨(some 9), (.mv (.t 51)), none⟩])
    .ret)) ks fr H ms := rfl
/- live: [0, 1, 2, 3, 8, 9, 14, 15] -/
def c67L0 : ICode :=
  (.seq (.ops [⟨(some 16), (.bin .lss (.t 15) (.t 14)), none⟩])
  (.seq (.cond (.t 16)
    .skip
    (.exit 0))
  (.seq (.block 1 (.seq (.ops [⟨(some 17), (.mv (.t 15)), none⟩,
    ⟨(some 10), (.mv (.t 17)), none⟩])
  (.seq (.seq (.ops [⟨(some 18), (.mv (.t 1)), none⟩,
    ⟨(some 19), (.mv (.t 10)), none⟩,
    ⟨(some 20), (.bin .shr (.t 18) (.t 19)), none⟩,
    ⟨(some 21), (.bin .and (.t 20) (.k (I 1))), none⟩,
    ⟨(some 22), (.bin .eql (.t 21) (.k (I 0))), none⟩])
  (.cond (.t 22)
    (.exit 1)
    .skip))
  (.seq (.draw 0 [] (.early 1 ⟨(some 23), (.mv (.t 0)), none⟩
    (.early 1 ⟨(some 24), (.mv (.t 10)), none⟩
    (.early 1 ⟨(some 25), (.mv (.t 2)), none⟩
    (.early 1 ⟨(some 26), (.mv (.t 10)), none⟩
    (.early 1 ⟨(some 27), (.ixS 1 (.t 25) (.t 26)), none⟩
    (.early 1 ⟨(some 28), (.load false 1 (.t 27)), none⟩
    (.early 1 ⟨(some 29), (.call (.k (.fn (.func 61) [] [])) [(.t 23), (.t 24), (.t 28)]), none⟩
    (.early 1 ⟨(some 30), (.mv (.t 0)), none⟩
    (.early 1 ⟨(some 31), (.mv (.t 10)), none⟩
    (.early 1 ⟨(some 32), (.mv (.t 3)), none⟩
    (.early 1 ⟨(some 33), (.mv (.t 10)), none⟩
    (.early 1 ⟨(some 34), (.ixS 1 (.t 32) (.t 33)), none⟩
    (.early 1 ⟨(some 35), (.load false 1 (.t 34)), none⟩
    (.step 0 0 ⟨(some 36), (.call (.k (.fn (.func 61) [] [])) [(.t 30), (.t 31), (.t 35)]), none⟩
    (.early 0 ⟨(some 11), (.mv (.t 29)), none⟩
    (.early 0 ⟨(some 12), (.mv (.t 36)), none⟩
    .done)))))))))))))))))
  (.keep [0, 1, 2, 3, 8, 9, 11, 12, 14, 15] (.block 2 (.seq (.ops [⟨(some 38), (.mv (.t 11)), none⟩,
    ⟨(some 39), (.mv (.t 12)), none⟩,
    ⟨(some 40), (.bin .lss (.t 38) (.t 39)), none⟩,
    ⟨(some 37), (.mv (.t 40)), none⟩])
  (.cond (.t 37)
    (.ops [⟨(some 41), (.mv (.t 8)), none⟩,
      ⟨(some 42), (.bin .add (.t 41) (.k (I 1))), none⟩,
      ⟨(some 8), (.mv (.t 42)), none⟩])
    (.seq (.ops [⟨(some 44), (.mv (.t 11)), none⟩,
      ⟨(some 45), (.mv (.t 12)), none⟩,
      ⟨(some 46), (.bin .gtr (.t 44) (.t 45)), none⟩,
      ⟨(some 43), (.mv (.t 46)), none⟩])
    (.cond (.t 43)
      (.ops [⟨(some 47), (.mv (.t 9)), none⟩,
        ⟨(some 48), (.bin .add (.t 47) (.k (I 1))), none⟩,
        ⟨(some 9), (.mv (.t 48)), none⟩])
      .skip))))))))))
  (.ops [⟨(some 49), (.bin .add (.t 15) (.k (I 1))), none⟩,
    ⟨(some 15), (.mv (.t 49)), none⟩]))))
theorem w67L0 {x : Cx} {Q : QT} {ks : List Kont} {fr : Fr} {H : AHeap} {ms : List Nat} : W x Q c67L0 ks fr H ms = W x Q (.seq (.ops [⟨(some 16), (.bin .lss (.t 15) (.t 14)), none⟩])
    (.seq (.cond (.t 16)
      .skip
      (.exit 0))
    (.seq (.block 1 (.seq (.ops [⟨(some 17), (.mv (.t 15)), none⟩,
      ⟨(some 10), (.mv (.t 17)), none⟩])
    (.seq (.seq (.ops [⟨(some 18), (.mv (.t 1)), none⟩,
      ⟨(some 19), (.mv (.t 10)), none⟩,
      ⟨(some 20), (.bin .shr (.t 18) (.t 19)), none⟩,
      ⟨(some 21), (.bin .and (.t 20) (.k (I 1))), none⟩,
      ⟨(some 22), (.bin .eql (.t 21) (.k (I 0))), none⟩])
    (.cond (.t 22)
      (.exit 1)
      .skip))
    (.seq (.draw 0 [] (.early 1 ⟨(some 23), (.mv (.t 0)), none⟩
      (.early 1 ⟨(some 24), (.mv (.t 10)), none⟩
      (.early 1 ⟨(some 25), (.mv (.t 2)), none⟩
      (.early 1 ⟨(some 26), (.mv (.t 10)), none⟩
      (.early 1 ⟨(some 27), (.ixS 1 (.t 25) (.t 26)), none⟩
      (.early 1 ⟨(some 28), (.load false 1 (.t 27)), none⟩
      (.early 1 ⟨(some 29), (.call (.k (.fn (.func 61) [] [])) [(.t 23), (.t 24), (.t 28)]), none⟩
      (.early 1 ⟨(some 30), (.mv (.t 0)), none⟩
      (.early 1 ⟨(some 31), (.mv (.t 10)), none⟩
      (.early 1 ⟨(some 32), (.mv (.t 3)), none⟩
      (.early 1 ⟨(some 33), (.mv (.t 10)), none⟩
      (.early 1 ⟨(some 34), (.ixS 1 (.t 32) (.t 33)), none⟩
      (.early 1 ⟨(some 35), (.load false 1 (.t 34)), none⟩
      (.step 0 0 ⟨(some 36), (.call (.k (.fn (.func 61) [] [])) [(.t 30), (.t 31), (.t 35)]), none⟩
      (.early 0 ⟨(some 11), (.mv (.t 29)), none⟩
      (.early 0 ⟨(some 12), (.mv (.t 36)), none⟩
      .done)))))))))))))))))
    (.keep [0, 1, 2, 3, 8, 9, 11, 12, 14, 15] (.block 2 (.seq (.ops [⟨(some 38), (.mv (.t 11)), none⟩,
      ⟨(some 39), (.mv (.t 12)), none⟩,
      ⟨(some 40), (.bin .lss (.t 38) (.t 39)), none⟩,
      ⟨(some 37), (.mv (.t 40)), none⟩])
    (.cond (.t 37)
      (.ops [⟨(some 41), (.mv (.t 8)), none⟩,
        ⟨(some 42), (.bin .add (.t 41) (.k (I 1))), none⟩,
        ⟨(some 8), (.mv (.t 42)), none⟩])
      (.seq (.ops [⟨(some 44), (.mv (.t 11)), none⟩,
        ⟨(some 45), (.mv (.t 12)), none⟩,
        ⟨(some 46), (.bin .gtr (.t 44) (.t 45)), none⟩,
        ⟨(some 43), (.mv (.t 46)), none⟩])
      (.cond (.t 43)
        (.ops [⟨(some 47), (.mv (.t 9)), none⟩,
          ⟨(some 48), (.bin .add (.t 47) (.k (I 1))), none⟩,
          ⟨(some 9), (.mv (.t 48)), none⟩])
        .skip))))))))))
    (.ops [⟨(some 49), (.bin .add (.t 15) (.k (I 1))), none⟩,
      ⟨(some 15), (.mv (.t 49)), none⟩])))) ks fr H ms := rfl
def c67 : ICode :=
  (.seq (.ops [⟨(some 8), (.mv (.k (I 0))), none⟩,
    ⟨(some 9), (.mv (.k (I 0))), none⟩])
  (.seq (.seq (.ops [⟨(some 13), (.mv (.t 0)), none⟩,
    ⟨(some 14), (.len (.t 13)), none⟩,
    ⟨(some 15), (.mv (.k (I 0))), none⟩])
  (.block 0 (.loop c67L0)))
  c67T1))
theorem w67 {x : Cx} {Q : QT} {ks : List Kont} {fr : Fr} {H : AHeap} {ms : List Nat} : W x Q c67 ks fr H ms = W x Q (.seq (.ops [⟨(some 8), (.mv (.k (I 0))), none⟩,
      ⟨(some 9), (.mv (.k (I 0))), none⟩])
    (.seq (.seq (.ops [⟨(some 13), (.mv (.t 0)), none⟩,
      ⟨(some 14), (.len (.t 13)), none⟩,
      ⟨(some 15), (.mv (.k (I 0))), none⟩])
    (.block 0 (.loop c67L0)))
    c67T1)) ks fr H ms := rfl
def r67 : List IRes := [(.tmp 8), (.tmp 9)]
theorem t67 : Try.f67.body.bind (trCode Try.prog Try.f67.ntmps) = some (strip c67) := by kernel_rfl
theorem q67 : trRes Try.prog Try.f67.results.toList = some r67 := by kernel_rfl
theorem fn67 : Try.prog.funcs[67]? = some Try.f67 := by kernel_rfl
theorem nn67 : (Try.f67.name == "runtime.NumGoroutine") = false := by kernel_rfl
theorem nt67 : Try.f67.ntmps = 52 := by kernel_rfl
def c84R0a : ICode :=
  (.ops [⟨(some 9), (.mv (.t 16)), none⟩])
theorem w84R0a {x : Cx} {Q : QT} {ks : List Kont} {fr : Fr} {H : AHeap} {ms : List Nat} : W x Q c84R0a ks fr H ms = W x Q (.ops [⟨(some 9), (.mv (.t 16)), none⟩]) ks fr H ms := rfl
theorem t84R0a : trCode Try.prog 42 (asOf Try.f84 0) = some (strip c84R0a) := by kernel_rfl
def c84R0b : ICode :=
  (.block 1 (.seq (.ops [⟨(some 18), (.load false 1 (.t 4)), none⟩,
    ⟨(some 19), (.load false 1 (.t 5)), none⟩,
    ⟨(some 20), (.mv (.t 9)), none⟩,
    ⟨(some 21), (.load false 1 (.t 6)), none⟩,
    ⟨(some 22), (.call (.k (.fn (.func 67) [] [])) [(.t 18), (.t 19), (.t 20), (.t 21)]), none⟩,
    ⟨(some 17), (.mv (.t 22)), none⟩,
    ⟨(some 23), (.ext (.t 17) 0), none⟩,
    ⟨(some 24), (.ext (.t 17) 1), none⟩,
    ⟨(some 10), (.mv (.t 23)), none⟩,
    ⟨(some 11), (.mv (.t 24)), none⟩])
  (.seq (.ops [⟨(some 25), (.mv (.t 11)), none⟩,
    ⟨(some 26), (.bin .eql (.t 25) (.k (I 0))), none⟩,
    ⟨(some 27), (.mv (.t 26)), none⟩,
    ⟨(some 28), (.mv (.t 10)), (some (27, true))⟩,
    ⟨(some 29), (.bin .gtr (.t 28) (.k (I 0))), (some (27, true))⟩,
    ⟨(some 30), (.pick (.t 27) (.t 29) (.k (B false))), none⟩,
    ⟨(some 31), (.mv (.t 30)), none⟩,
    ⟨(some 32), (.load false 1 (.t 7)), (some (31, true))⟩,
    ⟨(some 33), (.un .not (.t 32)), (some (31, true))⟩,
    ⟨(some 34), (.mv (.t 33)), (some (31, true))⟩,
    ⟨(some 35), (.mv (.t 10)), (some (34, false))⟩,
    ⟨(some 36), (.load false 1 (.t 5)), (some (34, false))⟩,
    ⟨(some 37), (.conv .u64 (.t 36)), (some (34, false))⟩,
    ⟨(some 38), (.call (.k (.fn (.func 92) [] [])) [(.t 37)]), (some (34, false))⟩,
    ⟨(some 39), (.bin .eql (.t 35) (.t 38)), (some (34, false))⟩,
    ⟨(some 40), (.pick (.t 34) (.k (B true)) (.t 39)), (some (31, true))⟩,
    ⟨(some 41), (.pick (.t 31) (.t 40) (.k (B false))), none⟩])
  (.cond (.t 41)
    (.seq (.ops [⟨none, (.store 1 (.t 8) (.k (B true))), none⟩])
    .ret)
    .skip))))
theorem w84R0b {x : Cx} {Q : QT} {ks : List Kont} {fr : Fr} {H : AHeap} {ms : List Nat} : W x Q c84R0b ks fr H ms = W x Q (.block 1 (.seq (.ops [⟨(some 18), (.load false 1 (.t 4)), none⟩,
      ⟨(some 19), (.load false 1 (.t 5)), none⟩,
      ⟨(some 20), (.mv (.t 9)), none⟩,
      ⟨(some 21), (.load false 1 (.t 6)), none⟩,
      ⟨(some 22), (.call (.k (.fn (.func 67) [] [])) [(.t 18), (.t 19), (.t 20), (.t 21)]), none⟩,
      ⟨(some 17), (.mv (.t 22)), none⟩,
      ⟨(some 23), (.ext (.t 17) 0), none⟩,
      ⟨(some 24), (.ext (.t 17) 1), none⟩,
      ⟨(some 10), (.mv (.t 23)), none⟩,
      ⟨(some 11), (.mv (.t 24)), none⟩])
    (.seq (.ops [⟨(some 25), (.mv (.t 11)), none⟩,
      ⟨(some 26), (.bin .eql (.t 25) (.k (I 0))), none⟩,
      ⟨(some 27), (.mv (.t 26)), none⟩,
      ⟨(some 28), (.mv (.t 10)), (some (27, true))⟩,
      ⟨(some 29), (.bin .gtr (.t 28) (.k (I 0))), (some (27, true))⟩,
      ⟨(some 30), (.pick (.t 27) (.t 29) (.k (B false))), none⟩,
      ⟨(some 31), (.mv (.t 30)), none⟩,
      ⟨(some 32), (.load false 1 (.t 7)), (some (31, true))⟩,
      ⟨(some 33), (.un .not (.t 32)), (some (31, true))⟩,
      ⟨(some 34), (.mv (.t 33)), (some (31, true))⟩,
      ⟨(some 35), (.mv (.t 10)), (some (34, false))⟩,
      ⟨(some 36), (.load false 1 (.t 5)), (some (34, false))⟩,
      ⟨(some 37), (.conv .u64 (.t 36)), (some (34, false))⟩,
      ⟨(some 38), (.call (.k (.fn (.func 92) [] [])) [(.t 37)]), (some (34, false))⟩,
      ⟨(some 39), (.bin .eql (.t 35) (.t 38)), (some (34, false))⟩,
      ⟨(some 40), (.pick (.t 34) (.k (B true)) (.t 39)), (some (31, true))⟩,
      ⟨(some 41), (.pick (.t 31) (.t 40) (.k (B false))), none⟩])
    (.cond (.t 41)
      (.seq (.ops [⟨none, (.store 1 (.t 8) (.k (B true))), none⟩])
      .ret)
      .skip)))) ks fr H ms := rfl
theorem t84R0b : trCode Try.prog 42 (bdOf Try.f84 0) = some (strip c84R0b) := by kernel_rfl
def c84T0 : ICode :=
  (.seq (.ops [⟨none, (.store 1 (.t 8) (.k (B false))), none⟩])
  .ret)
theorem w84T0 {x : Cx} {Q : QT} {ks : List Kont} {fr : Fr} {H : AHeap} {ms : List Nat} : W x Q c84T0 ks fr H ms = W x Q (.seq (.ops [⟨none, (.store 1 (.t 8) (.k (B false))), none⟩])
    .ret) ks fr H ms := rfl
noncomputable def c84 : ICode :=
  (.seq (.ops [⟨(some 4), (.box (.t 0)), none⟩,
    ⟨(some 5), (.box (.t 1)), none⟩,
    ⟨(some 6), (.box (.t 2)), none⟩,
    ⟨(some 7), (.box (.t 3)), none⟩,
    ⟨(some 8), (.alloc [(B false)]), none⟩])
  (.seq (.seq (.ops [⟨(some 12), (.load false 1 (.t 4)), none⟩,
    ⟨(some 13), (.len (.t 12)), none⟩,
    ⟨(some 14), (.load false 1 (.t 5)), none⟩,
    ⟨(some 15), (.call (.k (.fn (.func 63) [] [])) [(.t 13), (.t 14)]), none⟩])
  (.block 0 (.range (.t 15) [16] (asOf Try.f84 0) (bdOf Try.f84 0))))
  c84T0))
theorem w84 {x : Cx} {Q : QT} {ks : List Kont} {fr : Fr} {H : AHeap} {ms : List Nat} : W x Q c84 ks fr H ms = W x Q (.seq (.ops [⟨(some 4), (.box (.t 0)), none⟩,
      ⟨(some 5), (.box (.t 1)), none⟩,
      ⟨(some 6), (.box (.t 2)), none⟩,
      ⟨(some 7), (.box (.t 3)), none⟩,
      ⟨(some 8), (.alloc [(B false)]), none⟩])
    (.seq (.seq (.ops [⟨(some 12), (.load false 1 (.t 4)), none⟩,
      ⟨(some 13), (.len (.t 12)), none⟩,
      ⟨(some 14), (.load false 1 (.t 5)), none⟩,
      ⟨(some 15), (.call (.k (.fn (.func 63) [] [])) [(.t 13), (.t 14)]), none⟩])
    (.block 0 (.range (.t 15) [16] (asOf Try.f84 0) (bdOf Try.f84 0))))
    c84T0)) ks fr H ms := rfl
def r84 : List IRes := [(.cell false 1 8)]
theorem t84 : Try.f84.body.bind (trCode Try.prog Try.f84.ntmps) = some (strip c84) := by kernel_rfl
theorem q84 : trRes Try.prog Try.f84.results.toList = some r84 := by kernel_rfl
theorem fn84 : Try.prog.funcs[84]? = some Try.f84 := by kernel_rfl
theorem nn84 : (Try.f84.name == "runtime.NumGoroutine") = false := by kernel_rfl
theorem nt84 : Try.f84.ntmps = 42 := by kernel_rfl
def c92 : ICode :=
  (.seq (.ops [⟨(some 2), (.mv (.k (I 0))), none⟩])
  (.seq (.cond (.k (B false))
    (.seq (.ops [⟨(some 3), (.mv (.t 0)), none⟩,
      ⟨(some 4), (.conv .u32 (.t 3)), none⟩,
      ⟨(some 5), (.call (.k (.fn (.func 95) [] [])) [(.t 4)]), none⟩,
      ⟨(some 2), (.mv (.t 5)), none⟩])
    .ret)
    .skip)
  (.seq (.ops [⟨(some 6), (.mv (.t 0)), none⟩,
    ⟨(some 7), (.call (.k (.fn (.func 96) [] [])) [(.t 6)]), none⟩,
    ⟨(some 2), (.mv (.t 7)), none⟩])
  .ret)))
theorem w92 {x : Cx} {Q : QT} {ks : List Kont} {fr : Fr} {H : AHeap} {ms : List Nat} : W x Q c92 ks fr H ms = W x Q (.seq (.ops [⟨(some 2), (.mv (.k (I 0))), none⟩])
    (.seq (.cond (.k (B false))
      (.seq (.ops [⟨(some 3), (.mv (.t 0)), none⟩,
        ⟨(some 4), (.conv .u32 (.t 3)), none⟩,
        ⟨(some 5), (.call (.k (.fn (.func 95) [] [])) [(.t 4)]), none⟩,
        ⟨(some 2), (.mv (.t 5)), none⟩])
      .ret)
      .skip)
    (.seq (.ops [⟨(some 6), (.mv (.t 0)), none⟩,
      ⟨(some 7), (.call (.k (.fn (.func 96) [] [])) [(.t 6)]), none⟩,
      ⟨(some 2), (.mv (.t 7)), none⟩])
    .ret))) ks fr H ms := rfl
def r92 : List IRes := [(.tmp 2)]
theorem t92 : Try.f92.body.bind (trCode Try.prog Try.f92.ntmps) = some (strip c92) := by kernel_rfl
theorem q92 : trRes Try.prog Try.f92.results.toList = some r92 := by kernel_rfl
theorem fn92 : Try.prog.funcs[92]? = some Try.f92 := by kernel_rfl
theorem nn92 : (Try.f92.name == "runtime.NumGoroutine") = false := by kernel_rfl
theorem nt92 : Try.f92.ntmps = 8 := by kernel_rfl
def c96 : ICode :=
  (.seq (.ops [⟨(some 2), (.mv (.k (I 0))), none⟩])
  (.seq (.ops [⟨(some 3), (.mv (.t 0)), none⟩,
    ⟨(some 4), (.bin .shr (.t 3) (.k (.val (.int .u64 1)))), none⟩,
    ⟨(some 5), (.bin .and (.t 4) (.k (.val (.int .u64 6148914691236517205)))), none⟩,
    ⟨(some 6), (.mv (.t 0)), none⟩,
    ⟨(some 7), (.bin .and (.t 6) (.k (.val (.int .u64 6148914691236517205)))), none⟩,
    ⟨(some 8), (.bin .add (.t 5) (.t 7)), none⟩,
    ⟨(some 0), (.mv (.t 8)), none⟩])
  (.seq (.ops [⟨(some 9), (.mv (.t 0)), none⟩,
    ⟨(some 10), (.bin .shr (.t 9) (.k (.val (.int .u64 2)))), none⟩,
    ⟨(some 11), (.bin .and (.t 10) (.k (.val (.int .u64 3689348814741910323)))), none⟩,
    ⟨(some 12), (.mv (.t 0)), none⟩,
    ⟨(some 13), (.bin .and (.t 12) (.k (.val (.int .u64 3689348814741910323)))), none⟩,
    ⟨(some 14), (.bin .add (.t 11) (.t 13)), none⟩,
    ⟨(some 0), (.mv (.t 14)), none⟩])
  (.seq (.ops [⟨(some 15), (.mv (.t 0)), none⟩,
    ⟨(some 16), (.bin .shr (.t 15) (.k (.val (.int .u64 4)))), none⟩,
    ⟨(some 17), (.mv (.t 0)), none⟩,
    ⟨(some 18), (.bin .add (.t 16) (.t 17)), none⟩,
    ⟨(some 19), (.bin .and (.t 18) (.k (.val (.int .u64 1085102592571150095)))), none⟩,
    ⟨(some 0), (.mv (.t 19)), none⟩])
  (.seq (.ops [⟨(some 20), (.mv (.t 0)), none⟩,
    ⟨(some 21), (.mv (.t 0)), none⟩,
    ⟨(some 22), (.bin .shr (.t 21) (.k (.val (.int .u64 8)))), none⟩,
    ⟨(some 23), (.bin .add (.t 20) (.t 22)), none⟩,
    ⟨(some 0), (.mv (.t 23)), none⟩])
  (.seq (.ops [⟨(some 24), (.mv (.t 0)), none⟩,
    ⟨(some 25), (.mv (.t 0)), none⟩,
    ⟨(some 26), (.bin .shr (.t 25) (.k (.val (.int .u64 16)))), none⟩,
    ⟨(some 27), (.bin .add (.t 24) (.t 26)), none⟩,
    ⟨(some 0), (.mv (.t 27)), none⟩])
  (.seq (.ops [⟨(some 28), (.mv (.t 0)), none⟩,
    ⟨(some 29), (.mv (.t 0)), none⟩,
    ⟨(some 30), (.bin .shr (.t 29) (.k (.val (.int .u64 32)))), none⟩,
    ⟨(some 31), (.bin .add (.t 28) (.t 30)), none⟩,
    ⟨(some 0), (.mv (.t 31)), none⟩])
  (.seq (.ops [⟨(some 32), (.mv (.t 0)), none⟩,
    ⟨(some 33), (.conv .i64 (.t 32)), none⟩,
    ⟨(some 34), (.bin .and (.t 33) (.k (I 127))), none⟩,
    ⟨(some 2), (.mv (.t 34)), none⟩])
  .ret))))))))
theorem w96 {x : Cx} {Q : QT} {ks : List Kont} {fr : Fr} {H : AHeap} {ms : List Nat} : W x Q c96 ks fr H ms = W x Q (.seq (.ops [⟨(some 2), (.mv (.k (I 0))), none⟩])
    (.seq (.ops [⟨(some 3), (.mv (.t 0)), none⟩,
      ⟨(some 4), (.bin .shr (.t 3) (.k (.val (.int .u64 1)))), none⟩,
      ⟨(some 5), (.bin .and (.t 4) (.k (.val (.int .u64 6148914691236517205)))), none⟩,
      ⟨(some 6), (.mv (.t 0)), none⟩,
      ⟨(some 7), (.bin .and (.t 6) (.k (.val (.int .u64 6148914691236517205)))), none⟩,
      ⟨(some 8), (.bin .add (.t 5) (.t 7)), none⟩,
      ⟨(some 0), (.mv (.t 8)), none⟩])
    (.seq (.ops [⟨(some 9), (.mv (.t 0)), none⟩,
      ⟨(some 10), (.bin .shr (.t 9) (.k (.val (.int .u64 2)))), none⟩,
      ⟨(some 11), (.bin .and (.t 10) (.k (.val (.int .u64 3689348814741910323)))), none⟩,
      ⟨(some 12), (.mv (.t 0)), none⟩,
      ⟨(some 13), (.bin .and (.t 12) (.k (.val (.int .u64 3689348814741910323)))), none⟩,
      ⟨(some 14), (.bin .add (.t 11) (.t 13)), none⟩,
      ⟨(some 0), (.mv (.t 14)), none⟩])
    (.seq (.ops [⟨(some 15), (.mv (.t 0)), none⟩,
      ⟨(some 16), (.bin .shr (.t 15) (.k (.val (.int .u64 4)))), none⟩,
      ⟨(some 17), (.mv (.t 0)), none⟩,
      ⟨(some 18), (.bin .add (.t 16) (.t 17)), none⟩,
      ⟨(some 19), (.bin .and (.t 18) (.k (.val (.int .u64 1085102592571150095)))), none⟩,
      ⟨(some 0), (.mv (.t 19)), none⟩])
    (.seq (.ops [⟨(some 20), (.mv (.t 0)), none⟩,
      ⟨(some 21), (.mv (.t 0)), none⟩,
      ⟨(some 22), (.bin .shr (.t 21) (.k (.val (.int .u64 8)))), none⟩,
      ⟨(some 23), (.bin .add (.t 20) (.t 22)), none⟩,
      ⟨(some 0), (.mv (.t 23)), none⟩])
    (.seq (.ops [⟨(some 24), (.mv (.t 0)), none⟩,
      ⟨(some 25), (.mv (.t 0)), none⟩,
      ⟨(some 26), (.bin .shr (.t 25) (.k (.val (.int .u64 16)))), none⟩,
      ⟨(some 27), (.bin .add (.t 24) (.t 26)), none⟩,
      ⟨(some 0), (.mv (.t 27)), none⟩])
    (.seq (.ops [⟨(some 28), (.mv (.t 0)), none⟩,
      ⟨(some 29), (.mv (.t 0)), none⟩,
      ⟨(some 30), (.bin .shr (.t 29) (.k (.val (.int .u64 32)))), none⟩,
      ⟨(some 31), (.bin .add (.t 28) (.t 30)), none⟩,
      ⟨(some 0), (.mv (.t 31)), none⟩])
    (.seq (.ops [⟨(some 32), (.mv (.t 0)), none⟩,
      ⟨(some 33), (.conv .i64 (.t 32)), none⟩,
      ⟨(some 34), (.bin .and (.t 33) (.k (I 127))), none⟩,
      ⟨(some 2), (.mv (.t 34)), none⟩])
    .ret)))))))) ks fr H ms := rfl
def r96 : List IRes := [(.tmp 2)]
theorem t96 : Try.f96.body.bind (trCode Try.prog Try.f96.ntmps) = some (strip c96) := by kernel_rfl
theorem q96 : trRes Try.prog Try.f96.results.toList = some r96 := by kernel_rfl
theorem fn96 : Try.prog.funcs[96]? = some Try.f96 := by kernel_rfl
theorem nn96 : (Try.f96.name == "runtime.NumGoroutine") = false := by kernel_rfl
theorem nt96 : Try.f96.ntmps = 35 := by kernel_rfl
def c40 : ICode :=
  (.seq (.ops [⟨(some 4), (.mv (.k (I 0))), none⟩,
    ⟨(some 5), (.mv (.k (I 0))), none⟩])
  (.seq (.ops [⟨(some 6), (.mv (.t 0)), none⟩,
    ⟨(some 7), (.mv (.t 1)), none⟩,
    ⟨(some 8), (.call (.k (.fn (.func 68) [] [])) [(.t 6), (.t 7), (.k (B false))]), none⟩,
    ⟨(some 9), (.ext (.t 8) 0), none⟩,
    ⟨(some 10), (.ext (.t 8) 1), none⟩,
    ⟨(some 4), (.mv (.t 9)), none⟩,
    ⟨(some 5), (.mv (.t 10)), none⟩])
  .ret))
theorem w40 {x : Cx} {Q : QT} {ks : List Kont} {fr : Fr} {H : AHeap} {ms : List Nat} : W x Q c40 ks fr H ms = W x Q (.seq (.ops [⟨(some 4), (.mv (.k (I 0))), none⟩,
      ⟨(some 5), (.mv (.k (I 0))), none⟩])
    (.seq (.ops [⟨(some 6), (.mv (.t 0)), none⟩,
      ⟨(some 7), (.mv (.t 1)), none⟩,
      ⟨(some 8), (.call (.k (.fn (.func 68) [] [])) [(.t 6), (.t 7), (.k (B false))]), none⟩,
      ⟨(some 9), (.ext (.t 8) 0), none⟩,
      ⟨(some 10), (.ext (.t 8) 1), none⟩,
      ⟨(some 4), (.mv (.t 9)), none⟩,
      ⟨(some 5), (.mv (.t 10)), none⟩])
    .ret)) ks fr H ms := rfl
def r40 : List IRes := [(.tmp 4), (.tmp 5)]
theorem t40 : Try.f40.body.bind (trCode Try.prog Try.f40.ntmps) = some (strip c40) := by kernel_rfl
theorem q40 : trRes Try.prog Try.f40.results.toList = some r40 := by kernel_rfl
theorem fn40 : Try.prog.funcs[40]? = some Try.f40 := by kernel_rfl
theorem nn40 : (Try.f40.name == "runtime.NumGoroutine") = false := by kernel_rfl
theorem nt40 : Try.f40.ntmps = 11 := by kernel_rfl
def c41 : ICode :=
  (.seq (.ops [⟨(some 4), (.mv (.k (I 0))), none⟩,
    ⟨(some 5), (.mv (.k (I 0))), none⟩])
  (.seq (.ops [⟨(some 6), (.mv (.t 0)), none⟩,
    ⟨(some 7), (.mv (.t 1)), none⟩,
    ⟨(some 8), (.call (.k (.fn (.func 68) [] [])) [(.t 6), (.t 7), (.k (B true))]), none⟩,
    ⟨(some 9), (.ext (.t 8) 0), none⟩,
    ⟨(some 10), (.ext (.t 8) 1), none⟩,
    ⟨(some 4), (.mv (.t 9)), none⟩,
    ⟨(some 5), (.mv (.t 10)), none⟩])
  .ret))
theorem w41 {x : Cx} {Q : QT} {ks : List Kont} {fr : Fr} {H : AHeap} {ms : List Nat} : W x Q c41 ks fr H ms = W x Q (.seq (.ops [⟨(some 4), (.mv (.k (I 0))), none⟩,
      ⟨(some 5), (.mv (.k (I 0))), none⟩])
    (.seq (.ops [⟨(some 6), (.mv (.t 0)), none⟩,
      ⟨(some 7), (.mv (.t 1)), none⟩,
      ⟨(some 8), (.call (.k (.fn (.func 68) [] [])) [(.t 6), (.t 7), (.k (B true))]), none⟩,
      ⟨(some 9), (.ext (.t 8) 0), none⟩,
      ⟨(some 10), (.ext (.t 8) 1), none⟩,
      ⟨(some 4), (.mv (.t 9)), none⟩,
      ⟨(some 5), (.mv (.t 10)), none⟩])
    .ret)) ks fr H ms := rfl
def r41 : List IRes := [(.tmp 4), (.tmp 5)]
theorem t41 : Try.f41.body.bind (trCode Try.prog Try.f41.ntmps) = some (strip c41) := by kernel_rfl
theorem q41 : trRes Try.prog Try.f41.results.toList = some r41 := by kernel_rfl
theorem fn41 : Try.prog.funcs[41]? = some Try.f41 := by kernel_rfl
theorem nn41 : (Try.f41.name == "runtime.NumGoroutine") = false := by kernel_rfl
theorem nt41 : Try.f41.ntmps = 11 := by kernel_rfl
def c42T4 : ICode :=
  (.keep [] (.seq (.ops [⟨(some 4), (.mv (.k nilSl)), none⟩,
    ⟨(some 5), (.mv (.k (I 4))), none⟩])
  .ret))
theorem w42T4 {x : Cx} {Q : QT} {ks : List Kont} {fr : Fr} {H : AHeap} {ms : List Nat} : W x Q c42T4 ks fr H ms = W x Q (.keep [] (.seq (.ops [⟨(some 4), (.mv (.k nilSl)), none⟩,
      ⟨(some 5), (.mv (.k (I 4))), none⟩])
    .ret)) ks fr H ms := rfl
def c42T3 : ICode :=
  (.keep [0, 1, 16, 17, 18] (.ops [⟨(some 58), (.bin .add (.t 18) (.k (I 1))), none⟩,
    ⟨(some 18), (.mv (.t 58)), none⟩]))
theorem w42T3 {x : Cx} {Q : QT} {ks : List Kont} {fr : Fr} {H : AHeap} {ms : List Nat} : W x Q c42T3 ks fr H ms = W x Q (.keep [0, 1, 16, 17, 18] (.ops [⟨(some 58), (.bin .add (.t 18) (.k (I 1))), none⟩,
      ⟨(some 18), (.mv (.t 58)), none⟩])) ks fr H ms := rfl
def c42T2 : ICode :=
  (.keep [0, 1, 7, 8, 9, 16, 17, 18] (.seq (.ops [⟨(some 53), (.mv (.t 8)), none⟩,
    ⟨(some 54), (.mv (.t 53)), none⟩,
    ⟨(some 55), (.mv (.t 9)), (some (54, true))⟩,
    ⟨(some 56), (.pick (.t 54) (.t 55) (.k (B false))), none⟩])
  (.cond (.t 56)
    (.seq (.ops [⟨(some 57), (.mv (.t 7)), none⟩,
      ⟨(some 4), (.mv (.t 57)), none⟩,
      ⟨(some 5), (.mv (.k (I 0))), none⟩])
    .ret)
    .skip)))
theorem w42T2 {x : Cx} {Q : QT} {ks : List Kont} {fr : Fr} {H : AHeap} {ms : List Nat} : W x Q c42T2 ks fr H ms = W x Q (.keep [0, 1, 7, 8, 9, 16, 17, 18] (.seq (.ops [⟨(some 53), (.mv (.t 8)), none⟩,
      ⟨(some 54), (.mv (.t 53)), none⟩,
      ⟨(some 55), (.mv (.t 9)), (some (54, true))⟩,
      ⟨(some 56), (.pick (.t 54) (.t 55) (.k (B false))), none⟩])
    (.cond (.t 56)
      (.seq (.ops [⟨(some 57), (.mv (.t 7)), none⟩,
        ⟨(some 4), (.mv (.t 57)), none⟩,
        ⟨(some 5), (.mv (.k (I 0))), none⟩])
      .ret)
      .skip))) ks fr H ms := rfl
/- live: [0, 1, 7, 8, 9, 16, 17, 18, 22, 23, 24] -/
def c42L1 : ICode :=
  (.seq (.ops [⟨(some 25), (.bin .lss (.t 24) (.t 23)), none⟩])
  (.seq (.cond (.t 25)
    .skip
    (.exit 2))
  (.seq (.block 3 (.seq (.ops [⟨(some 26), (.mv (.t 24)), none⟩,
    ⟨(some 27), (.ixS 1 (.t 22) (.t 24)), none⟩,
    ⟨(some 28), (.load false 1 (.t 27)), none⟩,
    ⟨(some 10), (.mv (.t 26)), none⟩,
    ⟨(some 11), (.mv (.t 28)), none⟩])
  (.seq (.draw 0 [] (.early 1 ⟨(some 29), (.mv (.t 0)), none⟩
    (.early 1 ⟨(some 30), (.mv (.t 10)), none⟩
    (.early 1 ⟨(some 31), (.mv (.t 11)), none⟩
    (.early 1 ⟨(some 32), (.call (.k (.fn (.func 24) [] [])) [(.t 29), (.t 30), (.t 31)]), none⟩
    (.early 1 ⟨(some 33), (.mv (.t 0)), none⟩
    (.early 1 ⟨(some 34), (.mv (.t 10)), none⟩
    (.early 1 ⟨(some 35), (.mv (.t 1)), none⟩
    (.early 1 ⟨(some 36), (.mv (.t 10)), none⟩
    (.early 1 ⟨(some 37), (.ixS 1 (.t 35) (.t 36)), none⟩
    (.early 1 ⟨(some 38), (.load false 1 (.t 37)), none⟩
    (.step 0 0 ⟨(some 39), (.call (.k (.fn (.func 24) [] [])) [(.t 33), (.t 34), (.t 38)]), none⟩
    (.early 0 ⟨(some 12), (.mv (.t 32)), none⟩
    (.early 0 ⟨(some 13), (.mv (.t 39)), none⟩
    .done))))))))))))))
  (.keep [0, 1, 7, 8, 9, 12, 13, 16, 17, 18, 22, 23, 24] (.seq (.ops [⟨(some 40), (.mv (.t 8)), none⟩,
    ⟨(some 41), (.mv (.t 40)), none⟩,
    ⟨(some 42), (.mv (.t 12)), (some (41, true))⟩,
    ⟨(some 43), (.mv (.t 13)), (some (41, true))⟩,
    ⟨(some 44), (.bin .leq (.t 42) (.t 43)), (some (41, true))⟩,
    ⟨(some 45), (.pick (.t 41) (.t 44) (.k (B false))), none⟩,
    ⟨(some 8), (.mv (.t 45)), none⟩])
  (.ops [⟨(some 46), (.mv (.t 9)), none⟩,
    ⟨(some 47), (.mv (.t 46)), none⟩,
    ⟨(some 48), (.mv (.t 12)), (some (47, false))⟩,
    ⟨(some 49), (.mv (.t 13)), (some (47, false))⟩,
    ⟨(some 50), (.bin .lss (.t 48) (.t 49)), (some (47, false))⟩,
    ⟨(some 51), (.pick (.t 47) (.k (B true)) (.t 50)), none⟩,
    ⟨(some 9), (.mv (.t 51)), none⟩]))))))
  (.ops [⟨(some 52), (.bin .add (.t 24) (.k (I 1))), none⟩,
    ⟨(some 24), (.mv (.t 52)), none⟩]))))
theorem w42L1 {x : Cx} {Q : QT} {ks : List Kont} {fr : Fr} {H : AHeap} {ms : List Nat} : W x Q c42L1 ks fr H ms = W x Q (.seq (.ops [⟨(some 25), (.bin .lss (.t 24) (.t 23)), none⟩])
    (.seq (.cond (.t 25)
      .skip
      (.exit 2))
    (.seq (.block 3 (.seq (.ops [⟨(some 26), (.mv (.t 24)), none⟩,
      ⟨(some 27), (.ixS 1 (.t 22) (.t 24)), none⟩,
      ⟨(some 28), (.load false 1 (.t 27)), none⟩,
      ⟨(some 10), (.mv (.t 26)), none⟩,
      ⟨(some 11), (.mv (.t 28)), none⟩])
    (.seq (.draw 0 [] (.early 1 ⟨(some 29), (.mv (.t 0)), none⟩
      (.early 1 ⟨(some 30), (.mv (.t 10)), none⟩
      (.early 1 ⟨(some 31), (.mv (.t 11)), none⟩
      (.early 1 ⟨(some 32), (.call (.k (.fn (.func 24) [] [])) [(.t 29), (.t 30), (.t 31)]), none⟩
      (.early 1 ⟨(some 33), (.mv (.t 0)), none⟩
      (.early 1 ⟨(some 34), (.mv (.t 10)), none⟩
      (.early 1 ⟨(some 35), (.mv (.t 1)), none⟩
      (.early 1 ⟨(some 36), (.mv (.t 10)), none⟩
      (.early 1 ⟨(some 37), (.ixS 1 (.t 35) (.t 36)), none⟩
      (.early 1 ⟨(some 38), (.load false 1 (.t 37)), none⟩
      (.step 0 0 ⟨(some 39), (.call (.k (.fn (.func 24) [] [])) [(.t 33), (.t 34), (.t 38)]), none⟩
      (.early 0 ⟨(some 12), (.mv (.t 32)), none⟩
      (.early 0 ⟨(some 13), (.mv (.t 39)), none⟩
      .done))))))))))))))
    (.keep [0, 1, 7, 8, 9, 12, 13, 16, 17, 18, 22, 23, 24] (.seq (.ops [⟨(some 40), (.mv (.t 8)), none⟩,
      ⟨(some 41), (.mv (.t 40)), none⟩,
      ⟨(some 42), (.mv (.t 12)), (some (41, true))⟩,
      ⟨(some 43), (.mv (.t 13)), (some (41, true))⟩,
      ⟨(some 44), (.bin .leq (.t 42) (.t 43)), (some (41, true))⟩,
      ⟨(some 45), (.pick (.t 41) (.t 44) (.k (B false))), none⟩,
      ⟨(some 8), (.mv (.t 45)), none⟩])
    (.ops [⟨(some 46), (.mv (.t 9)), none⟩,
      ⟨(some 47), (.mv (.t 46)), none⟩,
      ⟨(some 48), (.mv (.t 12)), (some (47, false))⟩,
      ⟨(some 49), (.mv (.t 13)), (some (47, false))⟩,
      ⟨(some 50), (.bin .lss (.t 48) (.t 49)), (some (47, false))⟩,
      ⟨(some 51), (.pick (.t 47) (.k (B true)) (.t 50)), none⟩,
      ⟨(some 9), (.mv (.t 51)), none⟩]))))))
    (.ops [⟨(some 52), (.bin .add (.t 24) (.k (I 1))), none⟩,
      ⟨(some 24), (.mv (.t 52)), none⟩])))) ks fr H ms := rfl
/- live: [0, 1, 16, 17, 18] -/
def c42L0 : ICode :=
  (.seq (.ops [⟨(some 19), (.bin .lss (.t 18) (.t 17)), none⟩])
  (.seq (.cond (.t 19)
    .skip
    (.exit 0))
  (.seq (.block 1 (.seq (.ops [⟨(some 20), (.ixS 1 (.t 16) (.t 18)), none⟩,
    ⟨(some 21), (.load false 1 (.t 20)), none⟩,
    ⟨(some 7), (.mv (.t 21)), none⟩])
  (.seq (.ops [⟨(some 8), (.mv (.k (B true))), none⟩,
    ⟨(some 9), (.mv (.k (B false))), none⟩])
  (.seq (.seq (.ops [⟨(some 22), (.mv (.t 7)), none⟩,
    ⟨(some 23), (.len (.t 22)), none⟩,
    ⟨(some 24), (.mv (.k (I 0))), none⟩])
  (.block 2 (.loop c42L1)))
  c42T2))))
  c42T3)))
theorem w42L0 {x : Cx} {Q : QT} {ks : List Kont} {fr : Fr} {H : AHeap} {ms : List Nat} : W x Q c42L0 ks fr H ms = W x Q (.seq (.ops [⟨(some 19), (.bin .lss (.t 18) (.t 17)), none⟩])
    (.seq (.cond (.t 19)
      .skip
      (.exit 0))
    (.seq (.block 1 (.seq (.ops [⟨(some 20), (.ixS 1 (.t 16) (.t 18)), none⟩,
      ⟨(some 21), (.load false 1 (.t 20)), none⟩,
      ⟨(some 7), (.mv (.t 21)), none⟩])
    (.seq (.ops [⟨(some 8), (.mv (.k (B true))), none⟩,
      ⟨(some 9), (.mv (.k (B false))), none⟩])
    (.seq (.seq (.ops [⟨(some 22), (.mv (.t 7)), none⟩,
      ⟨(some 23), (.len (.t 22)), none⟩,
      ⟨(some 24), (.mv (.k (I 0))), none⟩])
    (.block 2 (.loop c42L1)))
    c42T2))))
    c42T3))) ks fr H ms := rfl
def c42 : ICode :=
  (.seq (.ops [⟨(some 4), (.mv (.k nilSl)), none⟩,
    ⟨(some 5), (.mv (.k (I 0))), none⟩])
  (.seq (.seq (.ops [⟨(some 14), (.mv (.t 0)), none⟩,
    ⟨(some 15), (.len (.t 14)), none⟩,
    ⟨(some 16), (.call (.k (.fn (.func 64) [] [])) [(.t 15), (.k nilSl)]), none⟩,
    ⟨(some 17), (.len (.t 16)), none⟩,
    ⟨(some 18), (.mv (.k (I 0))), none⟩])
  (.block 0 (.loop c42L0)))
  c42T4))
theorem w42 {x : Cx} {Q : QT} {ks : List Kont} {fr : Fr} {H : AHeap} {ms : List Nat} : W x Q c42 ks fr H ms = W x Q (.seq (.ops [⟨(some 4), (.mv (.k nilSl)), none⟩,
      ⟨(some 5), (.mv (.k (I 0))), none⟩])
    (.seq (.seq (.ops [⟨(some 14), (.mv (.t 0)), none⟩,
      ⟨(some 15), (.len (.t 14)), none⟩,
      ⟨(some 16), (.call (.k (.fn (.func 64) [] [])) [(.t 15), (.k nilSl)]), none⟩,
      ⟨(some 17), (.len (.t 16)), none⟩,
      ⟨(some 18), (.mv (.k (I 0))), none⟩])
    (.block 0 (.loop c42L0)))
    c42T4)) ks fr H ms := rfl
def r42 : List IRes := [(.tmp 4), (.tmp 5)]
theorem t42 : Try.f42.body.bind (trCode Try.prog Try.f42.ntmps) = some (strip c42) := by kernel_rfl
theorem q42 : trRes Try.prog Try.f42.results.toList = some r42 := by kernel_rfl
theorem fn42 : Try.prog.funcs[42]? = some Try.f42 := by kernel_rfl
theorem nn42 : (Try.f42.name == "runtime.NumGoroutine") = false := by kernel_rfl
theorem nt42 : Try.f42.ntmps = 59 := by kernel_rfl
def c68T1 : ICode :=
  (.keep [] (.seq (.ops [⟨(some 6), (.mv (.k (I 0))), none⟩,
    ⟨(some 7), (.mv (.k (I 4))), none⟩])
  .ret))
theorem w68T1 {x : Cx} {Q : QT} {ks : List Kont} {fr : Fr} {H : AHeap} {ms : List Nat} : W x Q c68T1 ks fr H ms = W x Q (.keep [] (.seq (.ops [⟨(some 6), (.mv (.k (I 0))), none⟩,
      ⟨(some 7), (.mv (.k (I 4))), none⟩])
    .ret)) ks fr H ms := rfl
/- live: [0, 1, 2, 8] -/
def c68L0 : ICode :=
  (.seq (.seq (.ops [⟨(some 9), (.mv (.t 8)), none⟩,
    ⟨(some 10), (.mv (.t 0)), none⟩,
    ⟨(some 11), (.len (.t 10)), none⟩,
    ⟨(some 12), (.bin .shl (.k (I 1)) (.t 11)), none⟩,
    ⟨(some 13), (.bin .lss (.t 9) (.t 12)), none⟩])
  (.cond (.t 13)
    .skip
    (.exit 0)))
  (.seq (.block 1 (.seq (.ops [⟨(some 16), (.mv (.t 0)), none⟩,
    ⟨(some 17), (.mv (.t 1)), none⟩,
    ⟨(some 18), (.mv (.t 8)), none⟩,
    ⟨(some 19), (.mv (.t 8)), none⟩,
    ⟨(some 20), (.mv (.t 2)), none⟩,
    ⟨(some 21), (.call (.k (.fn (.func 85) [] [])) [(.t 16), (.t 17), (.t 18), (.t 19), (.k (I 0)), (.k (B false)), (.t 20)]), none⟩])
  (.cond (.t 21)
    (.seq (.ops [⟨(some 22), (.mv (.t 8)), none⟩,
      ⟨(some 6), (.mv (.t 22)), none⟩,
      ⟨(some 7), (.mv (.k (I 0))), none⟩])
    .ret)
    .skip)))
  (.ops [⟨(some 14), (.mv (.t 8)), none⟩,
    ⟨(some 15), (.bin .add (.t 14) (.k (I 1))), none⟩,
    ⟨(some 8), (.mv (.t 15)), none⟩])))
theorem w68L0 {x : Cx} {Q : QT} {ks : List Kont} {fr : Fr} {H : AHeap} {ms : List Nat} : W x Q c68L0 ks fr H ms = W x Q (.seq (.seq (.ops [⟨(some 9), (.mv (.t 8)), none⟩,
      ⟨(some 10), (.mv (.t 0)), none⟩,
      ⟨(some 11), (.len (.t 10)), none⟩,
      ⟨(some 12), (.bin .shl (.k (I 1)) (.t 11)), none⟩,
      ⟨(some 13), (.bin .lss (.t 9) (.t 12)), none⟩])
    (.cond (.t 13)
      .skip
      (.exit 0)))
    (.seq (.block 1 (.seq (.ops [⟨(some 16), (.mv (.t 0)), none⟩,
      ⟨(some 17), (.mv (.t 1)), none⟩,
      ⟨(some 18), (.mv (.t 8)), none⟩,
      ⟨(some 19), (.mv (.t 8)), none⟩,
      ⟨(some 20), (.mv (.t 2)), none⟩,
      ⟨(some 21), (.call (.k (.fn (.func 85) [] [])) [(.t 16), (.t 17), (.t 18), (.t 19), (.k (I 0)), (.k (B false)), (.t 20)]), none⟩])
    (.cond (.t 21)
      (.seq (.ops [⟨(some 22), (.mv (.t 8)), none⟩,
        ⟨(some 6), (.mv (.t 22)), none⟩,
        ⟨(some 7), (.mv (.k (I 0))), none⟩])
      .ret)
      .skip)))
    (.ops [⟨(some 14), (.mv (.t 8)), none⟩,
      ⟨(some 15), (.bin .add (.t 14) (.k (I 1))), none⟩,
      ⟨(some 8), (.mv (.t 15)), none⟩]))) ks fr H ms := rfl
def c68 : ICode :=
  (.seq (.ops [⟨(some 6), (.mv (.k (I 0))), none⟩,
    ⟨(some 7), (.mv (.k (I 0))), none⟩])
  (.seq (.seq (.ops [⟨(some 8), (.mv (.k (I 1))), none⟩])
  (.block 0 (.loop c68L0)))
  c68T1))
theorem w68 {x : Cx} {Q : QT} {ks : List Kont} {fr : Fr} {H : AHeap} {ms : List Nat} : W x Q c68 ks fr H ms = W x Q (.seq (.ops [⟨(some 6), (.mv (.k (I 0))), none⟩,
      ⟨(some 7), (.mv (.k (I 0))), none⟩])
    (.seq (.seq (.ops [⟨(some 8), (.mv (.k (I 1))), none⟩])
    (.block 0 (.loop c68L0)))
    c68T1)) ks fr H ms := rfl
def r68 : List IRes := [(.tmp 6), (.tmp 7)]
theorem t68 : Try.f68.body.bind (trCode Try.prog Try.f68.ntmps) = some (strip c68) := by kernel_rfl
theorem q68 : trRes Try.prog Try.f68.results.toList = some r68 := by kernel_rfl
theorem fn68 : Try.prog.funcs[68]? = some Try.f68 := by kernel_rfl
theorem nn68 : (Try.f68.name == "runtime.NumGoroutine") = false := by kernel_rfl
theorem nt68 : Try.f68.ntmps = 23 := by kernel_rfl
def c85T3 : ICode :=
  (.keep [] (.seq (.ops [⟨(some 14), (.mv (.k (B false))), none⟩])
  .ret))
theorem w85T3 {x : Cx} {Q : QT} {ks : List Kont} {fr : Fr} {H : AHeap} {ms : List Nat} : W x Q c85T3 ks fr H ms = W x Q (.keep [] (.seq (.ops [⟨(some 14), (.mv (.k (B false))), none⟩])
    .ret)) ks fr H ms := rfl
/- live: [0, 1, 2, 3, 4, 5, 6, 37, 38] -/
def c85L2 : ICode :=
  (.seq (.ops [⟨(some 39), (.bin .lss (.t 38) (.t 37)), none⟩])
  (.seq (.cond (.t 39)
    .skip
    (.exit 2))
  (.seq (.block 3 (.seq (.ops [⟨(some 40), (.mv (.t 38)), none⟩,
    ⟨(some 15), (.mv (.t 40)), none⟩])
  (.seq (.seq (.ops [⟨(some 41), (.mv (.t 3)), none⟩,
    ⟨(some 42), (.mv (.t 15)), none⟩,
    ⟨(some 43), (.bin .shr (.t 41) (.t 42)), none⟩,
    ⟨(some 44), (.bin .and (.t 43) (.k (I 1))), none⟩,
    ⟨(some 45), (.bin .eql (.t 44) (.k (I 0))), none⟩])
  (.cond (.t 45)
    (.exit 3)
    .skip))
  (.seq (.draw 0 [] (.early 1 ⟨(some 46), (.mv (.t 0)), none⟩
    (.early 1 ⟨(some 47), (.mv (.t 4)), none⟩
    (.early 1 ⟨(some 48), (.mv (.t 15)), none⟩
    (.early 1 ⟨(some 49), (.call (.k (.fn (.func 24) [] [])) [(.t 46), (.t 47), (.t 48)]), none⟩
    (.early 1 ⟨(some 50), (.mv (.t 0)), none⟩
    (.early 1 ⟨(some 51), (.mv (.t 4)), none⟩
    (.early 1 ⟨(some 52), (.mv (.t 1)), none⟩
    (.early 1 ⟨(some 53), (.mv (.t 4)), none⟩
    (.early 1 ⟨(some 54), (.ixS 1 (.t 52) (.t 53)), none⟩
    (.early 1 ⟨(some 55), (.load false 1 (.t 54)), none⟩
    (.step 0 0 ⟨(some 56), (.call (.k (.fn (.func 24) [] [])) [(.t 50), (.t 51), (.t 55)]), none⟩
    (.early 0 ⟨(some 16), (.mv (.t 49)), none⟩
    (.early 0 ⟨(some 17), (.mv (.t 56)), none⟩
    .done))))))))))))))
  (.keep [0, 1, 2, 3, 4, 5, 6, 15, 16, 17, 37, 38] (.seq (.ops [⟨(some 57), (.mv (.t 16)), none⟩,
    ⟨(some 58), (.mv (.t 17)), none⟩,
    ⟨(some 59), (.bin .lss (.t 57) (.t 58)), none⟩,
    ⟨(some 60), (.mv (.t 59)), none⟩,
    ⟨(some 61), (.mv (.t 16)), (some (60, false))⟩,
    ⟨(some 62), (.mv (.t 17)), (some (60, false))⟩,
    ⟨(some 63), (.bin .eql (.t 61) (.t 62)), (some (60, false))⟩,
    ⟨(some 64), (.mv (.t 63)), (some (60, false))⟩,
    ⟨(some 65), (.mv (.t 6)), (some (64, true))⟩,
    ⟨(some 66), (.un .not (.t 65)), (some (64, true))⟩,
    ⟨(some 67), (.pick (.t 64) (.t 66) (.k (B false))), (some (60, false))⟩,
    ⟨(some 68), (.pick (.t 60) (.k (B true)) (.t 67)), none⟩,
    ⟨(some 69), (.mv (.t 68)), none⟩,
    ⟨(some 70), (.mv (.t 0)), (some (69, true))⟩,
    ⟨(some 71), (.mv (.t 1)), (some (69, true))⟩,
    ⟨(some 72), (.mv (.t 2)), (some (69, true))⟩,
    ⟨(some 73), (.mv (.t 3)), (some (69, true))⟩,
    ⟨(some 74), (.mv (.t 15)), (some (69, true))⟩,
    ⟨(some 75), (.bin .shl (.k (I 1)) (.t 74)), (some (69, true))⟩,
    ⟨(some 76), (.bin .andNot (.t 73) (.t 75)), (some (69, true))⟩,
    ⟨(some 77), (.mv (.t 4)), (some (69, true))⟩,
    ⟨(some 78), (.bin .add (.t 77) (.k (I 1))), (some (69, true))⟩,
    ⟨(some 79), (.mv (.t 5)), (some (69, true))⟩,
    ⟨(some 80), (.mv (.t 79)), (some (69, true))⟩,
    ⟨(some 81), (.mv (.t 16)), (some (80, false))⟩,
    ⟨(some 82), (.mv (.t 17)), (some (80, false))⟩,
    ⟨(some 83), (.bin .lss (.t 81) (.t 82)), (some (80, false))⟩,
    ⟨(some 84), (.pick (.t 80) (.k (B true)) (.t 83)), (some (69, true))⟩,
    ⟨(some 85), (.mv (.t 6)), (some (69, true))⟩,
    ⟨(some 86), (.call (.k (.fn (.func 85) [] [])) [(.t 70), (.t 71), (.t 72), (.t 76), (.t 78), (.t 84), (.t 85)]), (some (69, true))⟩,
    ⟨(some 87), (.pick (.t 69) (.t 86) (.k (B false))), none⟩])
  (.cond (.t 87)
    (.seq (.ops [⟨(some 14), (.mv (.k (B true))), none⟩])
    .ret)
    .skip)))))))
  (.ops [⟨(some 88), (.bin .add (.t 38) (.k (I 1))), none⟩,
    ⟨(some 38), (.mv (.t 88)), none⟩]))))
theorem w85L2 {x : Cx} {Q : QT} {ks : List Kont} {fr : Fr} {H : AHeap} {ms : List Nat} : W x Q c85L2 ks fr H ms = W x Q (.seq (.ops [⟨(some 39), (.bin .lss (.t 38) (.t 37)), none⟩])
    (.seq (.cond (.t 39)
      .skip
      (.exit 2))
    (.seq (.block 3 (.seq (.ops [⟨(some 40), (.mv (.t 38)), none⟩,
      ⟨(some 15), (.mv (.t 40)), none⟩])
    (.seq (.seq (.ops [⟨(some 41), (.mv (.t 3)), none⟩,
      ⟨(some 42), (.mv (.t 15)), none⟩,
      ⟨(some 43), (.bin .shr (.t 41) (.t 42)), none⟩,
      ⟨(some 44), (.bin .and (.t 43) (.k (I 1))), none⟩,
      ⟨(some 45), (.bin .eql (.t 44) (.k (I 0))), none⟩])
    (.cond (.t 45)
      (.exit 3)
      .skip))
    (.seq (.draw 0 [] (.early 1 ⟨(some 46), (.mv (.t 0)), none⟩
      (.early 1 ⟨(some 47), (.mv (.t 4)), none⟩
      (.early 1 ⟨(some 48), (.mv (.t 15)), none⟩
      (.early 1 ⟨(some 49), (.call (.k (.fn (.func 24) [] [])) [(.t 46), (.t 47), (.t 48)]), none⟩
      (.early 1 ⟨(some 50), (.mv (.t 0)), none⟩
      (.early 1 ⟨(some 51), (.mv (.t 4)), none⟩
      (.early 1 ⟨(some 52), (.mv (.t 1)), none⟩
      (.early 1 ⟨(some 53), (.mv (.t 4)), none⟩
      (.early 1 ⟨(some 54), (.ixS 1 (.t 52) (.t 53)), none⟩
      (.early 1 ⟨(some 55), (.load false 1 (.t 54)), none⟩
      (.step 0 0 ⟨(some 56), (.call (.k (.fn (.func 24) [] [])) [(.t 50), (.t 51), (.t 55)]), none⟩
      (.early 0 ⟨(some 16), (.mv (.t 49)), none⟩
      (.early 0 ⟨(some 17), (.mv (.t 56)), none⟩
      .done))))))))))))))
    (.keep [0, 1, 2, 3, 4, 5, 6, 15, 16, 17, 37, 38] (.seq (.ops [⟨(some 57), (.mv (.t 16)), none⟩,
      ⟨(some 58), (.mv (.t 17)), none⟩,
      ⟨(some 59), (.bin .lss (.t 57) (.t 58)), none⟩,
      ⟨(some 60), (.mv (.t 59)), none⟩,
      ⟨(some 61), (.mv (.t 16)), (some (60, false))⟩,
      ⟨(some 62), (.mv (.t 17)), (some (60, false))⟩,
      ⟨(some 63), (.bin .eql (.t 61) (.t 62)), (some (60, false))⟩,
      ⟨(some 64), (.mv (.t 63)), (some (60, false))⟩,
      ⟨(some 65), (.mv (.t 6)), (some (64, true))⟩,
      ⟨(some 66), (.un .not (.t 65)), (some (64, true))⟩,
      ⟨(some 67), (.pick (.t 64) (.t 66) (.k (B false))), (some (60, false))⟩,
      ⟨(some 68), (.pick (.t 60) (.k (B true)) (.t 67)), none⟩,
      ⟨(some 69), (.mv (.t 68)), none⟩,
      ⟨(some 70), (.mv (.t 0)), (some (69, true))⟩,
      ⟨(some 71), (.mv (.t 1)), (some (69, true))⟩,
      ⟨(some 72), (.mv (.t 2)), (some (69, true))⟩,
      ⟨(some 73), (.mv (.t 3)), (some (69, true))⟩,
      ⟨(some 74), (.mv (.t 15)), (some (69, true))⟩,
      ⟨(some 75), (.bin .shl (.k (I 1)) (.t 74)), (some (69, true))⟩,
      ⟨(some 76), (.bin .andNot (.t 73) (.t 75)), (some (69, true))⟩,
      ⟨(some 77), (.mv (.t 4)), (some (69, true))⟩,
      ⟨(some 78), (.bin .add (.t 77) (.k (I 1))), (some (69, true))⟩,
      ⟨(some 79), (.mv (.t 5)), (some (69, true))⟩,
      ⟨(some 80), (.mv (.t 79)), (some (69, true))⟩,
      ⟨(some 81), (.mv (.t 16)), (some (80, false))⟩,
      ⟨(some 82), (.mv (.t 17)), (some (80, false))⟩,
      ⟨(some 83), (.bin .lss (.t 81) (.t 82)), (some (80, false))⟩,
      ⟨(some 84), (.pick (.t 80) (.k (B true)) (.t 83)), (some (69, true))⟩,
      ⟨(some 85), (.mv (.t 6)), (some (69, true))⟩,
      ⟨(some 86), (.call (.k (.fn (.func 85) [] [])) [(.t 70), (.t 71), (.t 72), (.t 76), (.t 78), (.t 84), (.t 85)]), (some (69, true))⟩,
      ⟨(some 87), (.pick (.t 69) (.t 86) (.k (B false))), none⟩])
    (.cond (.t 87)
      (.seq (.ops [⟨(some 14), (.mv (.k (B true))), none⟩])
      .ret)
      .skip)))))))
    (.ops [⟨(some 88), (.bin .add (.t 38) (.k (I 1))), none⟩,
      ⟨(some 38), (.mv (.t 88)), none⟩])))) ks fr H ms := rfl
def c85T1 : ICode :=
  (.keep [0, 1, 2, 3, 4, 5, 6] (.seq (.seq (.ops [⟨(some 31), (.mv (.t 4)), none⟩,
    ⟨(some 32), (.mv (.t 0)), none⟩,
    ⟨(some 33), (.len (.t 32)), none⟩,
    ⟨(some 34), (.bin .eql (.t 31) (.t 33)), none⟩])
  (.cond (.t 34)
    (.seq (.ops [⟨(some 35), (.mv (.t 5)), none⟩,
      ⟨(some 14), (.mv (.t 35)), none⟩])
    .ret)
    .skip))
  (.seq (.seq (.ops [⟨(some 36), (.mv (.t 0)), none⟩,
    ⟨(some 37), (.len (.t 36)), none⟩,
    ⟨(some 38), (.mv (.k (I 0))), none⟩])
  (.block 2 (.loop c85L2)))
  c85T3)))
theorem w85T1 {x : Cx} {Q : QT} {ks : List Kont} {fr : Fr} {H : AHeap} {ms : List Nat} : W x Q c85T1 ks fr H ms = W x Q (.keep [0, 1, 2, 3, 4, 5, 6] (.seq (.seq (.ops [⟨(some 31), (.mv (.t 4)), none⟩,
      ⟨(some 32), (.mv (.t 0)), none⟩,
      ⟨(some 33), (.len (.t 32)), none⟩,
      ⟨(some 34), (.bin .eql (.t 31) (.t 33)), none⟩])
    (.cond (.t 34)
      (.seq (.ops [⟨(some 35), (.mv (.t 5)), none⟩,
        ⟨(some 14), (.mv (.t 35)), none⟩])
      .ret)
      .skip))
    (.seq (.seq (.ops [⟨(some 36), (.mv (.t 0)), none⟩,
      ⟨(some 37), (.len (.t 36)), none⟩,
      ⟨(some 38), (.mv (.k (I 0))), none⟩])
    (.block 2 (.loop c85L2)))
    c85T3))) ks fr H ms := rfl
/- live: [0, 1, 2, 3, 4, 5, 6] -/
def c85L0 : ICode :=
  (.seq (.seq (.ops [⟨(some 18), (.mv (.t 4)), none⟩,
    ⟨(some 19), (.mv (.t 0)), none⟩,
    ⟨(some 20), (.len (.t 19)), none⟩,
    ⟨(some 21), (.bin .lss (.t 18) (.t 20)), none⟩,
    ⟨(some 22), (.mv (.t 21)), none⟩,
    ⟨(some 23), (.mv (.t 2)), (some (22, true))⟩,
    ⟨(some 24), (.mv (.t 4)), (some (22, true))⟩,
    ⟨(some 25), (.bin .shr (.t 23) (.t 24)), (some (22, true))⟩,
    ⟨(some 26), (.bin .and (.t 25) (.k (I 1))), (some (22, true))⟩,
    ⟨(some 27), (.bin .eql (.t 26) (.k (I 0))), (some (22, true))⟩,
    ⟨(some 28), (.pick (.t 22) (.t 27) (.k (B false))), none⟩])
  (.cond (.t 28)
    .skip
    (.exit 0)))
  (.block 1 (.ops [⟨(some 29), (.mv (.t 4)), none⟩,
    ⟨(some 30), (.bin .add (.t 29) (.k (I 1))), none⟩,
    ⟨(some 4), (.mv (.t 30)), none⟩])))
theorem w85L0 {x : Cx} {Q : QT} {ks : List Kont} {fr : Fr} {H : AHeap} {ms : List Nat} : W x Q c85L0 ks fr H ms = W x Q (.seq (.seq (.ops [⟨(some 18), (.mv (.t 4)), none⟩,
      ⟨(some 19), (.mv (.t 0)), none⟩,
      ⟨(some 20), (.len (.t 19)), none⟩,
      ⟨(some 21), (.bin .lss (.t 18) (.t 20)), none⟩,
      ⟨(some 22), (.mv (.t 21)), none⟩,
      ⟨(some 23), (.mv (.t 2)), (some (22, true))⟩,
      ⟨(some 24), (.mv (.t 4)), (some (22, true))⟩,
      ⟨(some 25), (.bin .shr (.t 23) (.t 24)), (some (22, true))⟩,
      ⟨(some 26), (.bin .and (.t 25) (.k (I 1))), (some (22, true))⟩,
      ⟨(some 27), (.bin .eql (.t 26) (.k (I 0))), (some (22, true))⟩,
      ⟨(some 28), (.pick (.t 22) (.t 27) (.k (B false))), none⟩])
    (.cond (.t 28)
      .skip
      (.exit 0)))
    (.block 1 (.ops [⟨(some 29), (.mv (.t 4)), none⟩,
      ⟨(some 30), (.bin .add (.t 29) (.k (I 1))), none⟩,
      ⟨(some 4), (.mv (.t 30)), none⟩]))) ks fr H ms := rfl
def c85 : ICode :=
  (.seq (.ops [⟨(some 14), (.mv (.k (B false))), none⟩])
  (.seq (.block 0 (.loop c85L0))
  c85T1))
theorem w85 {x : Cx} {Q : QT} {ks : List Kont} {fr : Fr} {H : AHeap} {ms : List Nat} : W x Q c85 ks fr H ms = W x Q (.seq (.ops [⟨(some 14), (.mv (.k (B false))), none⟩])
    (.seq (.block 0 (.loop c85L0))
    c85T1)) ks fr H ms := rfl
def r85 : List IRes := [(.tmp 14)]
theorem t85 : Try.f85.body.bind (trCode Try.prog Try.f85.ntmps) = some (strip c85) := by kernel_rfl
theorem q85 : trRes Try.prog Try.f85.results.toList = some r85 := by kernel_rfl
theorem fn85 : Try.prog.funcs[85]? = some Try.f85 := by kernel_rfl
theorem nn85 : (Try.f85.name == "runtime.NumGoroutine") = false := by kernel_rfl
theorem nt85 : Try.f85.ntmps = 89 := by kernel_rfl
def c9T0 : ICode :=
  (.keep [0, 1, 5, 6, 7, 8, 9, 10] (.seq (.ops [⟨(some 72), (.mv (.t 0)), none⟩,
    ⟨(some 73), (.mv (.t 1)), none⟩,
    ⟨(some 74), (.call (.k (.fn (.func 40) [] [])) [(.t 72), (.t 73)]), none⟩,
    ⟨(some 71), (.mv (.t 74)), none⟩,
    ⟨(some 75), (.ext (.t 71) 0), none⟩,
    ⟨(some 76), (.ext (.t 71) 1), none⟩,
    ⟨(some 11), (.mv (.t 75)), none⟩,
    ⟨(some 12), (.mv (.t 76)), none⟩])
  (.seq (.ops [⟨(some 78), (.mv (.t 0)), none⟩,
    ⟨(some 79), (.mv (.t 1)), none⟩,
    ⟨(some 80), (.call (.k (.fn (.func 41) [] [])) [(.t 78), (.t 79)]), none⟩,
    ⟨(some 77), (.mv (.t 80)), none⟩,
    ⟨(some 81), (.ext (.t 77) 0), none⟩,
    ⟨(some 82), (.ext (.t 77) 1), none⟩,
    ⟨(some 13), (.mv (.t 81)), none⟩,
    ⟨(some 14), (.mv (.t 82)), none⟩])
  (.seq (.ops [⟨(some 84), (.mv (.t 0)), none⟩,
    ⟨(some 85), (.mv (.t 1)), none⟩,
    ⟨(some 86), (.call (.k (.fn (.func 42) [] [])) [(.t 84), (.t 85)]), none⟩,
    ⟨(some 83), (.mv (.t 86)), none⟩,
    ⟨(some 87), (.ext (.t 83) 0), none⟩,
    ⟨(some 88), (.ext (.t 83) 1), none⟩,
    ⟨(some 15), (.mv (.t 87)), none⟩,
    ⟨(some 16), (.mv (.t 88)), none⟩])
  (.seq (.ops [⟨(some 89), (.mv (.t 5)), none⟩,
    ⟨(some 90), (.mv (.t 11)), none⟩,
    ⟨(some 91), (.bin .eql (.t 89) (.t 90)), none⟩,
    ⟨(some 92), (.mv (.t 91)), none⟩,
    ⟨(some 93), (.mv (.t 7)), (some (92, true))⟩,
    ⟨(some 94), (.mv (.t 13)), (some (92, true))⟩,
    ⟨(some 95), (.bin .eql (.t 93) (.t 94)), (some (92, true))⟩,
    ⟨(some 96), (.pick (.t 92) (.t 95) (.k (B false))), none⟩,
    ⟨(some 97), (.mv (.t 96)), none⟩,
    ⟨(some 98), (.mv (.t 9)), (some (97, true))⟩,
    ⟨(some 99), (.mv (.t 15)), (some (97, true))⟩,
    ⟨(some 100), (.call (.k (.fn (.func 20) [] [])) [(.t 98), (.t 99)]), (some (97, true))⟩,
    ⟨(some 101), (.pick (.t 97) (.t 100) (.k (B false))), none⟩,
    ⟨(some 102), (.mv (.t 101)), none⟩,
    ⟨(some 103), (.mv (.t 6)), (some (102, true))⟩,
    ⟨(some 104), (.mv (.t 12)), (some (102, true))⟩,
    ⟨(some 105), (.bin .eql (.t 103) (.t 104)), (some (102, true))⟩,
    ⟨(some 106), (.pick (.t 102) (.t 105) (.k (B false))), none⟩,
    ⟨(some 107), (.mv (.t 106)), none⟩,
    ⟨(some 108), (.mv (.t 8)), (some (107, true))⟩,
    ⟨(some 109), (.mv (.t 14)), (some (107, true))⟩,
    ⟨(some 110), (.bin .eql (.t 108) (.t 109)), (some (107, true))⟩,
    ⟨(some 111), (.pick (.t 107) (.t 110) (.k (B false))), none⟩,
    ⟨(some 112), (.mv (.t 111)), none⟩,
    ⟨(some 113), (.mv (.t 10)), (some (112, true))⟩,
    ⟨(some 114), (.mv (.t 16)), (some (112, true))⟩,
    ⟨(some 115), (.bin .eql (.t 113) (.t 114)), (some (112, true))⟩,
    ⟨(some 116), (.pick (.t 112) (.t 115) (.k (B false))), none⟩,
    ⟨(some 117), (.mv (.t 116)), none⟩,
    ⟨(some 118), (.call (.k (.fn (.func 19) [] [])) []), (some (117, true))⟩,
    ⟨(some 119), (.pick (.t 117) (.t 118) (.k (B false))), none⟩,
    ⟨(some 4), (.mv (.t 119)), none⟩])
  .ret)))))
theorem w9T0 {x : Cx} {Q : QT} {ks : List Kont} {fr : Fr} {H : AHeap} {ms : List Nat} : W x Q c9T0 ks fr H ms = W x Q (.keep [0, 1, 5, 6, 7, 8, 9, 10] (.seq (.ops [⟨(some 72), (.mv (.t 0)), none⟩,
      ⟨(some 73), (.mv (.t 1)), none⟩,
      ⟨(some 74), (.call (.k (.fn (.func 40) [] [])) [(.t 72), (.t 73)]), none⟩,
      ⟨(some 71), (.mv (.t 74)), none⟩,
      ⟨(some 75), (.ext (.t 71) 0), none⟩,
      ⟨(some 76), (.ext (.t 71) 1), none⟩,
      ⟨(some 11), (.mv (.t 75)), none⟩,
      ⟨(some 12), (.mv (.t 76)), none⟩])
    (.seq (.ops [⟨(some 78), (.mv (.t 0)), none⟩,
      ⟨(some 79), (.mv (.t 1)), none⟩,
      ⟨(some 80), (.call (.k (.fn (.func 41) [] [])) [(.t 78), (.t 79)]), none⟩,
      ⟨(some 77), (.mv (.t 80)), none⟩,
      ⟨(some 81), (.ext (.t 77) 0), none⟩,
      ⟨(some 82), (.ext (.t 77) 1), none⟩,
      ⟨(some 13), (.mv (.t 81)), none⟩,
      ⟨(some 14), (.mv (.t 82)), none⟩])
    (.seq (.ops [⟨(some 84), (.mv (.t 0)), none⟩,
      ⟨(some 85), (.mv (.t 1)), none⟩,
      ⟨(some 86), (.call (.k (.fn (.func 42) [] [])) [(.t 84), (.t 85)]), none⟩,
      ⟨(some 83), (.mv (.t 86)), none⟩,
      ⟨(some 87), (.ext (.t 83) 0), none⟩,
      ⟨(some 88), (.ext (.t 83) 1), none⟩,
      ⟨(some 15), (.mv (.t 87)), none⟩,
      ⟨(some 16), (.mv (.t 88)), none⟩])
    (.seq (.ops [⟨(some 89), (.mv (.t 5)), none⟩,
      ⟨(some 90), (.mv (.t 11)), none⟩,
      ⟨(some 91), (.bin .eql (.t 89) (.t 90)), none⟩,
      ⟨(some 92), (.mv (.t 91)), none⟩,
      ⟨(some 93), (.mv (.t 7)), (some (92, true))⟩,
      ⟨(some 94), (.mv (.t 13)), (some (92, true))⟩,
      ⟨(some 95), (.bin .eql (.t 93) (.t 94)), (some (92, true))⟩,
      ⟨(some 96), (.pick (.t 92) (.t 95) (.k (B false))), none⟩,
      ⟨(some 97), (.mv (.t 96)), none⟩,
      ⟨(some 98), (.mv (.t 9)), (some (97, true))⟩,
      ⟨(some 99), (.mv (.t 15)), (some (97, true))⟩,
      ⟨(some 100), (.call (.k (.fn (.func 20) [] [])) [(.t 98), (.t 99)]), (some (97, true))⟩,
      ⟨(some 101), (.pick (.t 97) (.t 100) (.k (B false))), none⟩,
      ⟨(some 102), (.mv (.t 101)), none⟩,
      ⟨(some 103), (.mv (.t 6)), (some (102, true))⟩,
      ⟨(some 104), (.mv (.t 12)), (some (102, true))⟩,
      ⟨(some 105), (.bin .eql (.t 103) (.t 104)), (some (102, true))⟩,
      ⟨(some 106), (.pick (.t 102) (.t 105) (.k (B false))), none⟩,
      ⟨(some 107), (.mv (.t 106)), none⟩,
      ⟨(some 108), (.mv (.t 8)), (some (107, true))⟩,
      ⟨(some 109), (.mv (.t 14)), (some (107, true))⟩,
      ⟨(some 110), (.bin .eql (.t 108) (.t 109)), (some (107, true))⟩,
      ⟨(some 111), (.pick (.t 107) (.t 110) (.k (B false))), none⟩,
      ⟨(some 112), (.mv (.t 111)), none⟩,
      ⟨(some 113), (.mv (.t 10)), (some (112, true))⟩,
      ⟨(some 114), (.mv (.t 16)), (some (112, true))⟩,
      ⟨(some 115), (.bin .eql (.t 113) (.t 114)), (some (112, true))⟩,
      ⟨(some 116), (.pick (.t 112) (.t 115) (.k (B false))), none⟩,
      ⟨(some 117), (.mv (.t 116)), none⟩,
      ⟨(some 118), (.call (.k (.fn (.func 19) [] [])) []), (some (117, true))⟩,
      ⟨(some 119), (.pick (.t 117) (.t 118) (.k (B false))), none⟩,
      ⟨(some 4), (.mv (.t 119)), none⟩])
    .ret))))) ks fr H ms := rfl
def c9 : ICode :=
  (.seq (.ops [⟨(some 4), (.mv (.k (B false))), none⟩])
  (.seq (.ops [⟨(some 18), (.mv (.t 0)), none⟩,
    ⟨(some 19), (.call (.k (.fn (.func 16) [] [])) [(.t 18)]), none⟩,
    ⟨(some 20), (.mv (.t 1)), none⟩,
    ⟨(some 21), (.call (.k (.fn (.func 27) [] [])) [(.t 20)]), none⟩,
    ⟨(some 22), (.call (.k (.fn (.func 37) [] [])) [(.t 19), (.t 21)]), none⟩,
    ⟨(some 17), (.mv (.t 22)), none⟩,
    ⟨(some 23), (.ext (.t 17) 0), none⟩,
    ⟨(some 24), (.ext (.t 17) 1), none⟩,
    ⟨(some 5), (.mv (.t 23)), none⟩,
    ⟨(some 6), (.mv (.t 24)), none⟩])
  (.seq (.ops [⟨(some 26), (.mv (.t 0)), none⟩,
    ⟨(some 27), (.call (.k (.fn (.func 16) [] [])) [(.t 26)]), none⟩,
    ⟨(some 28), (.mv (.t 1)), none⟩,
    ⟨(some 29), (.call (.k (.fn (.func 27) [] [])) [(.t 28)]), none⟩,
    ⟨(some 30), (.call (.k (.fn (.func 38) [] [])) [(.t 27), (.t 29)]), none⟩,
    ⟨(some 25), (.mv (.t 30)), none⟩,
    ⟨(some 31), (.ext (.t 25) 0), none⟩,
    ⟨(some 32), (.ext (.t 25) 1), none⟩,
    ⟨(some 7), (.mv (.t 31)), none⟩,
    ⟨(some 8), (.mv (.t 32)), none⟩])
  (.seq (.ops [⟨(some 34), (.mv (.t 0)), none⟩,
    ⟨(some 35), (.call (.k (.fn (.func 16) [] [])) [(.t 34)]), none⟩,
    ⟨(some 36), (.mv (.t 1)), none⟩,
    ⟨(some 37), (.call (.k (.fn (.func 27) [] [])) [(.t 36)]), none⟩,
    ⟨(some 38), (.call (.k (.fn (.func 39) [] [])) [(.t 35), (.t 37)]), none⟩,
    ⟨(some 33), (.mv (.t 38)), none⟩,
    ⟨(some 39), (.ext (.t 33) 0), none⟩,
    ⟨(some 40), (.ext (.t 33) 1), none⟩,
    ⟨(some 9), (.mv (.t 39)), none⟩,
    ⟨(some 10), (.mv (.t 40)), none⟩])
  (.seq (.seq (.ops [⟨(some 41), (.mv (.t 0)), none⟩,
    ⟨(some 42), (.mv (.t 1)), none⟩,
    ⟨(some 43), (.call (.k (.fn (.func 28) [] [])) [(.t 41), (.t 42)]), none⟩,
    ⟨(some 44), (.un .not (.t 43)), none⟩])
  (.cond (.t 44)
    (.seq (.ops [⟨(some 45), (.mv (.t 5)), none⟩,
      ⟨(some 46), (.bin .eql (.t 45) (.k (I 0))), none⟩,
      ⟨(some 47), (.mv (.t 46)), none⟩,
      ⟨(some 48), (.mv (.t 7)), (some (47, true))⟩,
      ⟨(some 49), (.bin .eql (.t 48) (.k (I 0))), (some (47, true))⟩,
      ⟨(some 50), (.pick (.t 47) (.t 49) (.k (B false))), none⟩,
      ⟨(some 51), (.mv (.t 50)), none⟩,
      ⟨(some 52), (.mv (.t 9)), (some (51, true))⟩,
      ⟨(some 53), (.len (.t 52)), (some (51, true))⟩,
      ⟨(some 54), (.bin .eql (.t 53) (.k (I 0))), (some (51, true))⟩,
      ⟨(some 55), (.pick (.t 51) (.t 54) (.k (B false))), none⟩,
      ⟨(some 56), (.mv (.t 55)), none⟩,
      ⟨(some 57), (.mv (.t 6)), (some (56, true))⟩,
      ⟨(some 58), (.bin .eql (.t 57) (.k (I 2))), (some (56, true))⟩,
      ⟨(some 59), (.pick (.t 56) (.t 58) (.k (B false))), none⟩,
      ⟨(some 60), (.mv (.t 59)), none⟩,
      ⟨(some 61), (.mv (.t 8)), (some (60, true))⟩,
      ⟨(some 62), (.bin .eql (.t 61) (.k (I 2))), (some (60, true))⟩,
      ⟨(some 63), (.pick (.t 60) (.t 62) (.k (B false))), none⟩,
      ⟨(some 64), (.mv (.t 63)), none⟩,
      ⟨(some 65), (.mv (.t 10)), (some (64, true))⟩,
      ⟨(some 66), (.bin .eql (.t 65) (.k (I 2))), (some (64, true))⟩,
      ⟨(some 67), (.pick (.t 64) (.t 66) (.k (B false))), none⟩,
      ⟨(some 68), (.mv (.t 67)), none⟩,
      ⟨(some 69), (.call (.k (.fn (.func 19) [] [])) []), (some (68, true))⟩,
      ⟨(some 70), (.pick (.t 68) (.t 69) (.k (B false))), none⟩,
      ⟨(some 4), (.mv (.t 70)), none⟩])
    .ret)
    .skip))
  c9T0)))))
theorem w9 {x : Cx} {Q : QT} {ks : List Kont} {fr : Fr} {H : AHeap} {ms : List Nat} : W x Q c9 ks fr H ms = W x Q (.seq (.ops [⟨(some 4), (.mv (.k (B false))), none⟩])
    (.seq (.ops [⟨(some 18), (.mv (.t 0)), none⟩,
      ⟨(some 19), (.call (.k (.fn (.func 16) [] [])) [(.t 18)]), none⟩,
      ⟨(some 20), (.mv (.t 1)), none⟩,
      ⟨(some 21), (.call (.k (.fn (.func 27) [] [])) [(.t 20)]), none⟩,
      ⟨(some 22), (.call (.k (.fn (.func 37) [] [])) [(.t 19), (.t 21)]), none⟩,
      ⟨(some 17), (.mv (.t 22)), none⟩,
      ⟨(some 23), (.ext (.t 17) 0), none⟩,
      ⟨(some 24), (.ext (.t 17) 1), none⟩,
      ⟨(some 5), (.mv (.t 23)), none⟩,
      ⟨(some 6), (.mv (.t 24)), none⟩])
    (.seq (.ops [⟨(some 26), (.mv (.t 0)), none⟩,
      ⟨(some 27), (.call (.k (.fn (.func 16) [] [])) [(.t 26)]), none⟩,
      ⟨(some 28), (.mv (.t 1)), none⟩,
      ⟨(some 29), (.call (.k (.fn (.func 27) [] [])) [(.t 28)]), none⟩,
      ⟨(some 30), (.call (.k (.fn (.func 38) [] [])) [(.t 27), (.t 29)]), none⟩,
      ⟨(some 25), (.mv (.t 30)), none⟩,
      ⟨(some 31), (.ext (.t 25) 0), none⟩,
      ⟨(some 32), (.ext (.t 25) 1), none⟩,
      ⟨(some 7), (.mv (.t 31)), none⟩,
      ⟨(some 8), (.mv (.t 32)), none⟩])
    (.seq (.ops [⟨(some 34), (.mv (.t 0)), none⟩,
      ⟨(some 35), (.call (.k (.fn (.func 16) [] [])) [(.t 34)]), none⟩,
      ⟨(some 36), (.mv (.t 1)), none⟩,
      ⟨(some 37), (.call (.k (.fn (.func 27) [] [])) [(.t 36)]), none⟩,
      ⟨(some 38), (.call (.k (.fn (.func 39) [] [])) [(.t 35), (.t 37)]), none⟩,
      ⟨(some 33), (.mv (.t 38)), none⟩,
      ⟨(some 39), (.ext (.t 33) 0), none⟩,
      ⟨(some 40), (.ext (.t 33) 1), none⟩,
      ⟨(some 9), (.mv (.t 39)), none⟩,
      ⟨(some 10), (.mv (.t 40)), none⟩])
    (.seq (.seq (.ops [⟨(some 41), (.mv (.t 0)), none⟩,
      ⟨(some 42), (.mv (.t 1)), none⟩,
      ⟨(some 43), (.call (.k (.fn (.func 28) [] [])) [(.t 41), (.t 42)]), none⟩,
      ⟨(some 44), (.un .not (.t 43)), none⟩])
    (.cond (.t 44)
      (.seq (.ops [⟨(some 45), (.mv (.t 5)), none⟩,
        ⟨(some 46), (.bin .eql (.t 45) (.k (I 0))), none⟩,
        ⟨(some 47), (.mv (.t 46)), none⟩,
        ⟨(some 48), (.mv (.t 7)), (some (47, true))⟩,
        ⟨(some 49), (.bin .eql (.t 48) (.k (I 0))), (some (47, true))⟩,
        ⟨(some 50), (.pick (.t 47) (.t 49) (.k (B false))), none⟩,
        ⟨(some 51), (.mv (.t 50)), none⟩,
        ⟨(some 52), (.mv (.t 9)), (some (51, true))⟩,
        ⟨(some 53), (.len (.t 52)), (some (51, true))⟩,
        ⟨(some 54), (.bin .eql (.t 53) (.k (I 0))), (some (51, true))⟩,
        ⟨(some 55), (.pick (.t 51) (.t 54) (.k (B false))), none⟩,
        ⟨(some 56), (.mv (.t 55)), none⟩,
        ⟨(some 57), (.mv (.t 6)), (some (56, true))⟩,
        ⟨(some 58), (.bin .eql (.t 57) (.k (I 2))), (some (56, true))⟩,
        ⟨(some 59), (.pick (.t 56) (.t 58) (.k (B false))), none⟩,
        ⟨(some 60), (.mv (.t 59)), none⟩,
        ⟨(some 61), (.mv (.t 8)), (some (60, true))⟩,
        ⟨(some 62), (.bin .eql (.t 61) (.k (I 2))), (some (60, true))⟩,
        ⟨(some 63), (.pick (.t 60) (.t 62) (.k (B false))), none⟩,
        ⟨(some 64), (.mv (.t 63)), none⟩,
        ⟨(some 65), (.mv (.t 10)), (some (64, true))⟩,
        ⟨(some 66), (.bin .eql (.t 65) (.k (I 2))), (some (64, true))⟩,
        ⟨(some 67), (.pick (.t 64) (.t 66) (.k (B false))), none⟩,
        ⟨(some 68), (.mv (.t 67)), none⟩,
        ⟨(some 69), (.call (.k (.fn (.func 19) [] [])) []), (some (68, true))⟩,
        ⟨(some 70), (.pick (.t 68) (.t 69) (.k (B false))), none⟩,
        ⟨(some 4), (.mv (.t 70)), none⟩])
      .ret)
      .skip))
    c9T0))))) ks fr H ms := rfl
def r9 : List IRes := [(.tmp 4)]
theorem t9 : Try.f9.body.bind (trCode Try.prog Try.f9.ntmps) = some (strip c9) := by kernel_rfl
theorem q9 : trRes Try.prog Try.f9.results.toList = some r9 := by kernel_rfl
theorem fn9 : Try.prog.funcs[9]? = some Try.f9 := by kernel_rfl
theorem nn9 : (Try.f9.name == "runtime.NumGoroutine") = false := by kernel_rfl
theorem nt9 : Try.f9.ntmps = 120 := by kernel_rfl
end Go.Proofs.Ytkmmngphcodjjaa

namespace Go.Proofs.Ytkmmngphcodjjaa
open Go.Abs AVal
def c12 : ICode :=
  (.seq (.ops [⟨(some 2), (.mv (.k (B false))), none⟩])
  (.seq (.ops [⟨(some 6), (.mv (.t 0)), none⟩,
    ⟨(some 7), (.call (.k (.fn (.func 16) [] [])) [(.t 6)]), none⟩,
    ⟨(some 8), (.call (.k (.fn (.func 34) [] [])) [(.t 7)]), none⟩,
    ⟨(some 5), (.mv (.t 8)), none⟩,
    ⟨(some 9), (.ext (.t 5) 0), none⟩,
    ⟨(some 10), (.ext (.t 5) 1), none⟩,
    ⟨(some 3), (.mv (.t 9)), none⟩,
    ⟨(some 4), (.mv (.t 10)), none⟩])
  (.seq (.seq (.ops [⟨(some 11), (.mv (.t 0)), none⟩,
    ⟨(some 12), (.call (.k (.fn (.func 18) [] [])) [(.t 11)]), none⟩,
    ⟨(some 13), (.un .not (.t 12)), none⟩,
    ⟨(some 14), (.mv (.t 13)), none⟩,
    ⟨(some 15), (.mv (.t 0)), (some (14, false))⟩,
    ⟨(some 16), (.len (.t 15)), (some (14, false))⟩,
    ⟨(some 17), (.bin .gtr (.t 16) (.k (I 5))), (some (14, false))⟩,
    ⟨(some 18), (.pick (.t 14) (.k (B true)) (.t 17)), none⟩])
  (.cond (.t 18)
    (.seq (.ops [⟨(some 19), (.mv (.t 3)), none⟩,
      ⟨(some 20), (.len (.t 19)), none⟩,
      ⟨(some 21), (.bin .eql (.t 20) (.k (I 0))), none⟩,
      ⟨(some 22), (.mv (.t 21)), none⟩,
      ⟨(some 23), (.mv (.t 4)), (some (22, true))⟩,
      ⟨(some 24), (.bin .eql (.t 23) (.k (I 2))), (some (22, true))⟩,
      ⟨(some 25), (.pick (.t 22) (.t 24) (.k (B false))), none⟩,
      ⟨(some 26), (.mv (.t 25)), none⟩,
      ⟨(some 27), (.call (.k (.fn (.func 19) [] [])) []), (some (26, true))⟩,
      ⟨(some 28), (.pick (.t 26) (.t 27) (.k (B false))), none⟩,
      ⟨(some 2), (.mv (.t 28)), none⟩])
    .ret)
    .skip))
  (.seq (.ops [⟨(some 29), (.mv (.t 3)), none⟩,
    ⟨(some 30), (.mv (.t 0)), none⟩,
    ⟨(some 31), (.call (.k (.fn (.func 47) [] [])) [(.t 30)]), none⟩,
    ⟨(some 32), (.call (.k (.fn (.func 46) [] [])) [(.t 29), (.t 31), (.k (.fn (.func 20) [] []))]), none⟩,
    ⟨(some 33), (.mv (.t 32)), none⟩,
    ⟨(some 34), (.mv (.t 4)), (some (33, true))⟩,
    ⟨(some 35), (.bin .eql (.t 34) (.k (I 0))), (some (33, true))⟩,
    ⟨(some 36), (.pick (.t 33) (.t 35) (.k (B false))), none⟩,
    ⟨(some 37), (.mv (.t 36)), none⟩,
    ⟨(some 38), (.call (.k (.fn (.func 19) [] [])) []), (some (37, true))⟩,
    ⟨(some 39), (.pick (.t 37) (.t 38) (.k (B false))), none⟩,
    ⟨(some 2), (.mv (.t 39)), none⟩])
  .ret))))
theorem w12 {x : Cx} {Q : QT} {ks : List Kont} {fr : Fr} {H : AHeap} {ms : List Nat} : W x Q c12 ks fr H ms = W x Q (.seq (.ops [⟨(some 2), (.mv (.k (B false))), none⟩])
    (.seq (.ops [⟨(some 6), (.mv (.t 0)), none⟩,
      ⟨(some 7), (.call (.k (.fn (.func 16) [] [])) [(.t 6)]), none⟩,
      ⟨(some 8), (.call (.k (.fn (.func 34) [] [])) [(.t 7)]), none⟩,
      ⟨(some 5), (.mv (.t 8)), none⟩,
      ⟨(some 9), (.ext (.t 5) 0), none⟩,
      ⟨(some 10), (.ext (.t 5) 1), none⟩,
      ⟨(some 3), (.mv (.t 9)), none⟩,
      ⟨(some 4), (.mv (.t 10)), none⟩])
    (.seq (.seq (.ops [⟨(some 11), (.mv (.t 0)), none⟩,
      ⟨(some 12), (.call (.k (.fn (.func 18) [] [])) [(.t 11)]), none⟩,
      ⟨(some 13), (.un .not (.t 12)), none⟩,
      ⟨(some 14), (.mv (.t 13)), none⟩,
      ⟨(some 15), (.mv (.t 0)), (some (14, false))⟩,
      ⟨(some 16), (.len (.t 15)), (some (14, false))⟩,
      ⟨(some 17), (.bin .gtr (.t 16) (.k (I 5))), (some (14, false))⟩,
      ⟨(some 18), (.pick (.t 14) (.k (B true)) (.t 17)), none⟩])
    (.cond (.t 18)
      (.seq (.ops [⟨(some 19), (.mv (.t 3)), none⟩,
        ⟨(some 20), (.len (.t 19)), none⟩,
        ⟨(some 21), (.bin .eql (.t 20) (.k (I 0))), none⟩,
        ⟨(some 22), (.mv (.t 21)), none⟩,
        ⟨(some 23), (.mv (.t 4)), (some (22, true))⟩,
        ⟨(some 24), (.bin .eql (.t 23) (.k (I 2))), (some (22, true))⟩,
        ⟨(some 25), (.pick (.t 22) (.t 24) (.k (B false))), none⟩,
        ⟨(some 26), (.mv (.t 25)), none⟩,
        ⟨(some 27), (.call (.k (.fn (.func 19) [] [])) []), (some (26, true))⟩,
        ⟨(some 28), (.pick (.t 26) (.t 27) (.k (B false))), none⟩,
        ⟨(some 2), (.mv (.t 28)), none⟩])
      .ret)
      .skip))
    (.seq (.ops [⟨(some 29), (.mv (.t 3)), none⟩,
      ⟨(some 30), (.mv (.t 0)), none⟩,
      ⟨(some 31), (.call (.k (.fn (.func 47) [] [])) [(.t 30)]), none⟩,
      ⟨(some 32), (.call (.k (.fn (.func 46) [] [])) [(.t 29), (.t 31), (.k (.fn (.func 20) [] []))]), none⟩,
      ⟨(some 33), (.mv (.t 32)), none⟩,
      ⟨(some 34), (.mv (.t 4)), (some (33, true))⟩,
      ⟨(some 35), (.bin .eql (.t 34) (.k (I 0))), (some (33, true))⟩,
      ⟨(some 36), (.pick (.t 33) (.t 35) (.k (B false))), none⟩,
      ⟨(some 37), (.mv (.t 36)), none⟩,
      ⟨(some 38), (.call (.k (.fn (.func 19) [] [])) []), (some (37, true))⟩,
      ⟨(some 39), (.pick (.t 37) (.t 38) (.k (B false))), none⟩,
      ⟨(some 2), (.mv (.t 39)), none⟩])
    .ret)))) ks fr H ms := rfl
def r12 : List IRes := [(.tmp 2)]
theorem t12 : Try.f12.body.bind (trCode Try.prog Try.f12.ntmps) = some (strip c12) := by kernel_rfl
theorem q12 : trRes Try.prog Try.f12.results.toList = some r12 := by kernel_rfl
theorem fn12 : Try.prog.funcs[12]? = some Try.f12 := by kernel_rfl
theorem nn12 : (Try.f12.name == "runtime.NumGoroutine") = false := by kernel_rfl
theorem nt12 : Try.f12.ntmps = 40 := by kernel_rfl
def c34R0a : ICode :=
  (.ops [⟨(some 5), (.mv (.t 23)), none⟩])
theorem w34R0a {x : Cx} {Q : QT} {ks : List Kont} {fr : Fr} {H : AHeap} {ms : List Nat} : W x Q c34R0a ks fr H ms = W x Q (.ops [⟨(some 5), (.mv (.t 23)), none⟩]) ks fr H ms := rfl
theorem t34R0a : trCode Try.prog 38 (asOf Try.f34 0) = some (strip c34R0a) := by kernel_rfl
def c34R0b : ICode :=
  (.block 1 (.seq (.ops [⟨(some 25), (.load false 1 (.t 1)), none⟩,
    ⟨(some 26), (.mv (.t 5)), none⟩,
    ⟨(some 27), (.call (.k (.fn (.func 38) [] [])) [(.t 25), (.t 26)]), none⟩,
    ⟨(some 24), (.mv (.t 27)), none⟩,
    ⟨(some 28), (.ext (.t 24) 0), none⟩,
    ⟨(some 29), (.ext (.t 24) 1), none⟩,
    ⟨(some 6), (.mv (.t 28)), none⟩,
    ⟨(some 7), (.mv (.t 29)), none⟩])
  (.seq (.ops [⟨(some 30), (.mv (.t 7)), none⟩,
    ⟨(some 31), (.bin .eql (.t 30) (.k (I 4))), none⟩])
  (.cond (.t 31)
    (.draw 2 [] (.early 1 ⟨(some 32), (.load false 1 (.t 4)), none⟩
      (.early 1 ⟨(some 33), (.mv (.t 5)), none⟩
      (.early 1 ⟨(some 34), (.call (.k (.fn (.func 43) [] [])) [(.t 33)]), none⟩
      (.step 0 1 ⟨(some 35), (.bslice 1 1 [nilSl] [(0, 1, (.t 34))]), none⟩
      (.step 1 0 ⟨(some 36), (.append 1 24 (.t 32) (.t 35)), none⟩
      (.step 2 0 ⟨none, (.store 1 (.t 4) (.t 36)), none⟩
      .done)))))))
    .skip))))
theorem w34R0b {x : Cx} {Q : QT} {ks : List Kont} {fr : Fr} {H : AHeap} {ms : List Nat} : W x Q c34R0b ks fr H ms = W x Q (.block 1 (.seq (.ops [⟨(some 25), (.load false 1 (.t 1)), none⟩,
      ⟨(some 26), (.mv (.t 5)), none⟩,
      ⟨(some 27), (.call (.k (.fn (.func 38) [] [])) [(.t 25), (.t 26)]), none⟩,
      ⟨(some 24), (.mv (.t 27)), none⟩,
      ⟨(some 28), (.ext (.t 24) 0), none⟩,
      ⟨(some 29), (.ext (.t 24) 1), none⟩,
      ⟨(some 6), (.mv (.t 28)), none⟩,
      ⟨(some 7), (.mv (.t 29)), none⟩])
    (.seq (.ops [⟨(some 30), (.mv (.t 7)), none⟩,
      ⟨(some 31), (.bin .eql (.t 30) (.k (I 4))), none⟩])
    (.cond (.t 31)
      (.draw 2 [] (.early 1 ⟨(some 32), (.load false 1 (.t 4)), none⟩
        (.early 1 ⟨(some 33), (.mv (.t 5)), none⟩
        (.early 1 ⟨(some 34), (.call (.k (.fn (.func 43) [] [])) [(.t 33)]), none⟩
        (.step 0 1 ⟨(some 35), (.bslice 1 1 [nilSl] [(0, 1, (.t 34))]), none⟩
        (.step 1 0 ⟨(some 36), (.append 1 24 (.t 32) (.t 35)), none⟩
        (.step 2 0 ⟨none, (.store 1 (.t 4) (.t 36)), none⟩
        .done)))))))
      .skip)))) ks fr H ms := rfl
theorem t34R0b : trCode Try.prog 38 (bdOf Try.f34 0) = some (strip c34R0b) := by kernel_rfl
def c34T0 : ICode :=
  (.seq (.ops [⟨(some 37), (.load false 1 (.t 4)), none⟩,
    ⟨(some 2), (.mv (.t 37)), none⟩,
    ⟨(some 3), (.mv (.k (I 0))), none⟩])
  .ret)
theorem w34T0 {x : Cx} {Q : QT} {ks : List Kont} {fr : Fr} {H : AHeap} {ms : List Nat} : W x Q c34T0 ks fr H ms = W x Q (.seq (.ops [⟨(some 37), (.load false 1 (.t 4)), none⟩,
      ⟨(some 2), (.mv (.t 37)), none⟩,
      ⟨(some 3), (.mv (.k (I 0))), none⟩])
    .ret) ks fr H ms := rfl
noncomputable def c34 : ICode :=
  (.seq (.ops [⟨(some 1), (.box (.t 0)), none⟩,
    ⟨(some 2), (.mv (.k nilSl)), none⟩,
    ⟨(some 3), (.mv (.k (I 0))), none⟩])
  (.seq (.seq (.ops [⟨(some 8), (.load false 1 (.t 1)), none⟩,
    ⟨(some 9), (.call (.k (.fn (.func 55) [] [])) [(.t 8)]), none⟩,
    ⟨(some 10), (.un .not (.t 9)), none⟩,
    ⟨(some 11), (.mv (.t 10)), none⟩,
    ⟨(some 12), (.load false 1 (.t 1)), (some (11, false))⟩,
    ⟨(some 13), (.len (.t 12)), (some (11, false))⟩,
    ⟨(some 14), (.bin .gtr (.t 13) (.k (I 5))), (some (11, false))⟩,
    ⟨(some 15), (.pick (.t 11) (.k (B true)) (.t 14)), none⟩])
  (.cond (.t 15)
    (.seq (.ops [⟨(some 2), (.mv (.k nilSl)), none⟩,
      ⟨(some 3), (.mv (.k (I 2))), none⟩])
    .ret)
    .skip))
  (.seq (.ops [⟨(some 4), (.alloc [nilSl]), none⟩])
  (.seq (.seq (.draw 0 [] (.early 1 ⟨(some 16), (.load false 1 (.t 1)), none⟩
    (.early 1 ⟨(some 17), (.len (.t 16)), none⟩
    (.early 1 ⟨(some 18), (.load false 1 (.t 1)), none⟩
    (.early 1 ⟨(some 19), (.len (.t 18)), none⟩
    (.early 1 ⟨(some 20), (.bin .shl (.k (I 1)) (.t 19)), none⟩
    (.early 1 ⟨(some 21), (.bin .sub (.t 20) (.k (I 1))), none⟩
    (.step 0 0 ⟨(some 22), (.call (.k (.fn (.func 63) [] [])) [(.t 17), (.t 21)]), none⟩
    .done))))))))
  (.block 0 (.range (.t 22) [23] (asOf Try.f34 0) (bdOf Try.f34 0))))
  c34T0))))
theorem w34 {x : Cx} {Q : QT} {ks : List Kont} {fr : Fr} {H : AHeap} {ms : List Nat} : W x Q c34 ks fr H ms = W x Q (.seq (.ops [⟨(some 1), (.box (.t 0)), none⟩,
      ⟨(some 2), (.mv (.k nilSl)), none⟩,
      ⟨(some 3), (.mv (.k (I 0))), none⟩])
    (.seq (.seq (.ops [⟨(some 8), (.load false 1 (.t 1)), none⟩,
      ⟨(some 9), (.call (.k (.fn (.func 55) [] [])) [(.t 8)]), none⟩,
      ⟨(some 10), (.un .not (.t 9)), none⟩,
      ⟨(some 11), (.mv (.t 10)), none⟩,
      ⟨(some 12), (.load false 1 (.t 1)), (some (11, false))⟩,
      ⟨(some 13), (.len (.t 12)), (some (11, false))⟩,
      ⟨(some 14), (.bin .gtr (.t 13) (.k (I 5))), (some (11, false))⟩,
      ⟨(some 15), (.pick (.t 11) (.k (B true)) (.t 14)), none⟩])
    (.cond (.t 15)
      (.seq (.ops [⟨(some 2), (.mv (.k nilSl)), none⟩,
        ⟨(some 3), (.mv (.k (I 2))), none⟩])
      .ret)
      .skip))
    (.seq (.ops [⟨(some 4), (.alloc [nilSl]), none⟩])
    (.seq (.seq (.draw 0 [] (.early 1 ⟨(some 16), (.load false 1 (.t 1)), none⟩
      (.early 1 ⟨(some 17), (.len (.t 16)), none⟩
      (.early 1 ⟨(some 18), (.load false 1 (.t 1)), none⟩
      (.early 1 ⟨(some 19), (.len (.t 18)), none⟩
      (.early 1 ⟨(some 20), (.bin .shl (.k (I 1)) (.t 19)), none⟩
      (.early 1 ⟨(some 21), (.bin .sub (.t 20) (.k (I 1))), none⟩
      (.step 0 0 ⟨(some 22), (.call (.k (.fn (.func 63) [] [])) [(.t 17), (.t 21)]), none⟩
      .done))))))))
    (.block 0 (.range (.t 22) [23] (asOf Try.f34 0) (bdOf Try.f34 0))))
    c34T0)))) ks fr H ms := rfl
def r34 : List IRes := [(.tmp 2), (.tmp 3)]
theorem t34 : Try.f34.body.bind (trCode Try.prog Try.f34.ntmps) = some (strip c34) := by kernel_rfl
theorem q34 : trRes Try.prog Try.f34.results.toList = some r34 := by kernel_rfl
theorem fn34 : Try.prog.funcs[34]? = some Try.f34 := by kernel_rfl
theorem nn34 : (Try.f34.name == "runtime.NumGoroutine") = false := by kernel_rfl
theorem nt34 : Try.f34.ntmps = 38 := by kernel_rfl
def c46T1 : ICode :=
  (.keep [] (.seq (.ops [⟨(some 6), (.mv (.k (B true))), none⟩])
  .ret))
theorem w46T1 {x : Cx} {Q : QT} {ks : List Kont} {fr : Fr} {H : AHeap} {ms : List Nat} : W x Q c46T1 ks fr H ms = W x Q (.keep [] (.seq (.ops [⟨(some 6), (.mv (.k (B true))), none⟩])
    .ret)) ks fr H ms := rfl
/- live: [1, 2, 15, 16, 17] -/
def c46L0 : ICode :=
  (.seq (.ops [⟨(some 18), (.bin .lss (.t 17) (.t 16)), none⟩])
  (.seq (.cond (.t 18)
    .skip
    (.exit 0))
  (.seq (.block 1 (.seq (.ops [⟨(some 19), (.mv (.t 17)), none⟩,
    ⟨(some 20), (.ixS 1 (.t 15) (.t 17)), none⟩,
    ⟨(some 21), (.load false 1 (.t 20)), none⟩,
    ⟨(some 7), (.mv (.t 19)), none⟩,
    ⟨(some 8), (.mv (.t 21)), none⟩])
  (.seq (.ops [⟨(some 22), (.mv (.t 1)), none⟩,
    ⟨(some 23), (.mv (.t 7)), none⟩,
    ⟨(some 24), (.ixS 1 (.t 22) (.t 23)), none⟩,
    ⟨(some 25), (.load false 1 (.t 24)), none⟩,
    ⟨(some 9), (.mv (.t 25)), none⟩])
  (.seq (.ops [⟨(some 26), (.mv (.t 2)), none⟩,
    ⟨(some 27), (.mv (.t 8)), none⟩,
    ⟨(some 28), (.mv (.t 9)), none⟩,
    ⟨(some 29), (.call (.t 26) [(.t 27), (.t 28)]), none⟩,
    ⟨(some 30), (.un .not (.t 29)), none⟩])
  (.cond (.t 30)
    (.seq (.ops [⟨(some 6), (.mv (.k (B false))), none⟩])
    .ret)
    .skip)))))
  (.ops [⟨(some 31), (.bin .add (.t 17) (.k (I 1))), none⟩,
    ⟨(some 17), (.mv (.t 31)), none⟩]))))
theorem w46L0 {x : Cx} {Q : QT} {ks : List Kont} {fr : Fr} {H : AHeap} {ms : List Nat} : W x Q c46L0 ks fr H ms = W x Q (.seq (.ops [⟨(some 18), (.bin .lss (.t 17) (.t 16)), none⟩])
    (.seq (.cond (.t 18)
      .skip
      (.exit 0))
    (.seq (.block 1 (.seq (.ops [⟨(some 19), (.mv (.t 17)), none⟩,
      ⟨(some 20), (.ixS 1 (.t 15) (.t 17)), none⟩,
      ⟨(some 21), (.load false 1 (.t 20)), none⟩,
      ⟨(some 7), (.mv (.t 19)), none⟩,
      ⟨(some 8), (.mv (.t 21)), none⟩])
    (.seq (.ops [⟨(some 22), (.mv (.t 1)), none⟩,
      ⟨(some 23), (.mv (.t 7)), none⟩,
      ⟨(some 24), (.ixS 1 (.t 22) (.t 23)), none⟩,
      ⟨(some 25), (.load false 1 (.t 24)), none⟩,
      ⟨(some 9), (.mv (.t 25)), none⟩])
    (.seq (.ops [⟨(some 26), (.mv (.t 2)), none⟩,
      ⟨(some 27), (.mv (.t 8)), none⟩,
      ⟨(some 28), (.mv (.t 9)), none⟩,
      ⟨(some 29), (.call (.t 26) [(.t 27), (.t 28)]), none⟩,
      ⟨(some 30), (.un .not (.t 29)), none⟩])
    (.cond (.t 30)
      (.seq (.ops [⟨(some 6), (.mv (.k (B false))), none⟩])
      .ret)
      .skip)))))
    (.ops [⟨(some 31), (.bin .add (.t 17) (.k (I 1))), none⟩,
      ⟨(some 17), (.mv (.t 31)), none⟩])))) ks fr H ms := rfl
def c46 : ICode :=
  (.seq (.ops [⟨(some 6), (.mv (.k (B false))), none⟩])
  (.seq (.seq (.ops [⟨(some 10), (.mv (.t 0)), none⟩,
    ⟨(some 11), (.len (.t 10)), none⟩,
    ⟨(some 12), (.mv (.t 1)), none⟩,
    ⟨(some 13), (.len (.t 12)), none⟩,
    ⟨(some 14), (.bin .neq (.t 11) (.t 13)), none⟩])
  (.cond (.t 14)
    (.seq (.ops [⟨(some 6), (.mv (.k (B false))), none⟩])
    .ret)
    .skip))
  (.seq (.seq (.ops [⟨(some 15), (.mv (.t 0)), none⟩,
    ⟨(some 16), (.len (.t 15)), none⟩,
    ⟨(some 17), (.mv (.k (I 0))), none⟩])
  (.block 0 (.loop c46L0)))
  c46T1)))
theorem w46 {x : Cx} {Q : QT} {ks : List Kont} {fr : Fr} {H : AHeap} {ms : List Nat} : W x Q c46 ks fr H ms = W x Q (.seq (.ops [⟨(some 6), (.mv (.k (B false))), none⟩])
    (.seq (.seq (.ops [⟨(some 10), (.mv (.t 0)), none⟩,
      ⟨(some 11), (.len (.t 10)), none⟩,
      ⟨(some 12), (.mv (.t 1)), none⟩,
      ⟨(some 13), (.len (.t 12)), none⟩,
      ⟨(some 14), (.bin .neq (.t 11) (.t 13)), none⟩])
    (.cond (.t 14)
      (.seq (.ops [⟨(some 6), (.mv (.k (B false))), none⟩])
      .ret)
      .skip))
    (.seq (.seq (.ops [⟨(some 15), (.mv (.t 0)), none⟩,
      ⟨(some 16), (.len (.t 15)), none⟩,
      ⟨(some 17), (.mv (.k (I 0))), none⟩])
    (.block 0 (.loop c46L0)))
    c46T1))) ks fr H ms := rfl
def r46 : List IRes := [(.tmp 6)]
theorem t46 : Try.f46.body.bind (trCode Try.prog Try.f46.ntmps) = some (strip c46) := by kernel_rfl
theorem q46 : trRes Try.prog Try.f46.results.toList = some r46 := by kernel_rfl
theorem fn46 : Try.prog.funcs[46]? = some Try.f46 := by kernel_rfl
theorem nn46 : (Try.f46.name == "runtime.NumGoroutine") = false := by kernel_rfl
theorem nt46 : Try.f46.ntmps = 32 := by kernel_rfl
def c47T1 : ICode :=
  (.keep [3] (.seq (.ops [⟨(some 29), (.mv (.t 3)), none⟩,
    ⟨(some 2), (.mv (.t 29)), none⟩])
  .ret))
theorem w47T1 {x : Cx} {Q : QT} {ks : List Kont} {fr : Fr} {H : AHeap} {ms : List Nat} : W x Q c47T1 ks fr H ms = W x Q (.keep [3] (.seq (.ops [⟨(some 29), (.mv (.t 3)), none⟩,
      ⟨(some 2), (.mv (.t 29)), none⟩])
    .ret)) ks fr H ms := rfl
/- live: [0, 3, 10, 11, 12] -/
def c47L0 : ICode :=
  (.seq (.ops [⟨(some 13), (.bin .lss (.t 12) (.t 11)), none⟩])
  (.seq (.cond (.t 13)
    .skip
    (.exit 0))
  (.seq (.block 1 (.seq (.ops [⟨(some 14), (.ixS 1 (.t 10) (.t 12)), none⟩,
    ⟨(some 15), (.load false 1 (.t 14)), none⟩,
    ⟨(some 5), (.mv (.t 15)), none⟩])
  (.seq (.ops [⟨(some 17), (.mv (.t 0)), none⟩,
    ⟨(some 18), (.mv (.t 5)), none⟩,
    ⟨(some 19), (.call (.k (.fn (.func 41) [] [])) [(.t 17), (.t 18)]), none⟩,
    ⟨(some 16), (.mv (.t 19)), none⟩,
    ⟨(some 20), (.ext (.t 16) 0), none⟩,
    ⟨(some 21), (.ext (.t 16) 1), none⟩,
    ⟨(some 6), (.mv (.t 20)), none⟩,
    ⟨(some 7), (.mv (.t 21)), none⟩])
  (.seq (.ops [⟨(some 22), (.mv (.t 7)), none⟩,
    ⟨(some 23), (.bin .neq (.t 22) (.k (I 0))), none⟩])
  (.cond (.t 23)
    (.ops [⟨(some 24), (.mv (.t 3)), none⟩,
      ⟨(some 25), (.mv (.t 5)), none⟩,
      ⟨(some 26), (.bslice 1 1 [nilSl] [(0, 1, (.t 25))]), none⟩,
      ⟨(some 27), (.append 1 24 (.t 24) (.t 26)), none⟩,
      ⟨(some 3), (.mv (.t 27)), none⟩])
    .skip)))))
  (.ops [⟨(some 28), (.bin .add (.t 12) (.k (I 1))), none⟩,
    ⟨(some 12), (.mv (.t 28)), none⟩]))))
theorem w47L0 {x : Cx} {Q : QT} {ks : List Kont} {fr : Fr} {H : AHeap} {ms : List Nat} : W x Q c47L0 ks fr H ms = W x Q (.seq (.ops [⟨(some 13), (.bin .lss (.t 12) (.t 11)), none⟩])
    (.seq (.cond (.t 13)
      .skip
      (.exit 0))
    (.seq (.block 1 (.seq (.ops [⟨(some 14), (.ixS 1 (.t 10) (.t 12)), none⟩,
      ⟨(some 15), (.load false 1 (.t 14)), none⟩,
      ⟨(some 5), (.mv (.t 15)), none⟩])
    (.seq (.ops [⟨(some 17), (.mv (.t 0)), none⟩,
      ⟨(some 18), (.mv (.t 5)), none⟩,
      ⟨(some 19), (.call (.k (.fn (.func 41) [] [])) [(.t 17), (.t 18)]), none⟩,
      ⟨(some 16), (.mv (.t 19)), none⟩,
      ⟨(some 20), (.ext (.t 16) 0), none⟩,
      ⟨(some 21), (.ext (.t 16) 1), none⟩,
      ⟨(some 6), (.mv (.t 20)), none⟩,
      ⟨(some 7), (.mv (.t 21)), none⟩])
    (.seq (.ops [⟨(some 22), (.mv (.t 7)), none⟩,
      ⟨(some 23), (.bin .neq (.t 22) (.k (I 0))), none⟩])
    (.cond (.t 23)
      (.ops [⟨(some 24), (.mv (.t 3)), none⟩,
        ⟨(some 25), (.mv (.t 5)), none⟩,
        ⟨(some 26), (.bslice 1 1 [nilSl] [(0, 1, (.t 25))]), none⟩,
        ⟨(some 27), (.append 1 24 (.t 24) (.t 26)), none⟩,
        ⟨(some 3), (.mv (.t 27)), none⟩])
      .skip)))))
    (.ops [⟨(some 28), (.bin .add (.t 12) (.k (I 1))), none⟩,
      ⟨(some 12), (.mv (.t 28)), none⟩])))) ks fr H ms := rfl
def c47 : ICode :=
  (.seq (.ops [⟨(some 2), (.mv (.k nilSl)), none⟩])
  (.seq (.ops [⟨(some 3), (.mv (.k nilSl)), none⟩])
  (.seq (.seq (.ops [⟨(some 8), (.mv (.t 0)), none⟩,
    ⟨(some 9), (.len (.t 8)), none⟩,
    ⟨(some 10), (.call (.k (.fn (.func 64) [] [])) [(.t 9), (.k nilSl)]), none⟩,
    ⟨(some 11), (.len (.t 10)), none⟩,
    ⟨(some 12), (.mv (.k (I 0))), none⟩])
  (.block 0 (.loop c47L0)))
  c47T1)))
theorem w47 {x : Cx} {Q : QT} {ks : List Kont} {fr : Fr} {H : AHeap} {ms : List Nat} : W x Q c47 ks fr H ms = W x Q (.seq (.ops [⟨(some 2), (.mv (.k nilSl)), none⟩])
    (.seq (.ops [⟨(some 3), (.mv (.k nilSl)), none⟩])
    (.seq (.seq (.ops [⟨(some 8), (.mv (.t 0)), none⟩,
      ⟨(some 9), (.len (.t 8)), none⟩,
      ⟨(some 10), (.call (.k (.fn (.func 64) [] [])) [(.t 9), (.k nilSl)]), none⟩,
      ⟨(some 11), (.len (.t 10)), none⟩,
      ⟨(some 12), (.mv (.k (I 0))), none⟩])
    (.block 0 (.loop c47L0)))
    c47T1))) ks fr H ms := rfl
def r47 : List IRes := [(.tmp 2)]
theorem t47 : Try.f47.body.bind (trCode Try.prog Try.f47.ntmps) = some (strip c47) := by kernel_rfl
theorem q47 : trRes Try.prog Try.f47.results.toList = some r47 := by kernel_rfl
theorem fn47 : Try.prog.funcs[47]? = some Try.f47 := by kernel_rfl
theorem nn47 : (Try.f47.name == "runtime.NumGoroutine") = false := by kernel_rfl
theorem nt47 : Try.f47.ntmps = 30 := by kernel_rfl
def c8T10 : ICode :=
  (.keep [] (.seq (.ops [⟨(some 195), (.call (.k (.fn (.func 19) [] [])) []), none⟩,
    ⟨(some 4), (.mv (.t 195)), none⟩])
  .ret))
theorem w8T10 {x : Cx} {Q : QT} {ks : List Kont} {fr : Fr} {H : AHeap} {ms : List Nat} : W x Q c8T10 ks fr H ms = W x Q (.keep [] (.seq (.ops [⟨(some 195), (.call (.k (.fn (.func 19) [] [])) []), none⟩,
      ⟨(some 4), (.mv (.t 195)), none⟩])
    .ret)) ks fr H ms := rfl
def c8T9 : ICode :=
  (.keep [0, 1, 18, 158, 159, 160] (.ops [⟨(some 194), (.bin .add (.t 160) (.k (I 1))), none⟩,
    ⟨(some 160), (.mv (.t 194)), none⟩]))
theorem w8T9 {x : Cx} {Q : QT} {ks : List Kont} {fr : Fr} {H : AHeap} {ms : List Nat} : W x Q c8T9 ks fr H ms = W x Q (.keep [0, 1, 18, 158, 159, 160] (.ops [⟨(some 194), (.bin .add (.t 160) (.k (I 1))), none⟩,
      ⟨(some 160), (.mv (.t 194)), none⟩])) ks fr H ms := rfl
def c8T8 : ICode :=
  (.keep [0, 1, 18, 24, 158, 159, 160] (.seq (.ops [⟨(some 190), (.mv (.t 18)), none⟩,
    ⟨(some 191), (.mkfn (.func 36) [] [(.t 24)]), none⟩,
    ⟨(some 192), (.call (.k (.fn (.func 35) [] [])) [(.t 190), (.t 191)]), none⟩,
    ⟨(some 193), (.un .not (.t 192)), none⟩])
  (.cond (.t 193)
    (.seq (.ops [⟨(some 4), (.mv (.k (B false))), none⟩])
    .ret)
    .skip)))
theorem w8T8 {x : Cx} {Q : QT} {ks : List Kont} {fr : Fr} {H : AHeap} {ms : List Nat} : W x Q c8T8 ks fr H ms = W x Q (.keep [0, 1, 18, 24, 158, 159, 160] (.seq (.ops [⟨(some 190), (.mv (.t 18)), none⟩,
      ⟨(some 191), (.mkfn (.func 36) [] [(.t 24)]), none⟩,
      ⟨(some 192), (.call (.k (.fn (.func 35) [] [])) [(.t 190), (.t 191)]), none⟩,
      ⟨(some 193), (.un .not (.t 192)), none⟩])
    (.cond (.t 193)
      (.seq (.ops [⟨(some 4), (.mv (.k (B false))), none⟩])
      .ret)
      .skip))) ks fr H ms := rfl
/- live: [0, 1, 18, 24, 158, 159, 160, 172, 173, 174] -/
def c8L7 : ICode :=
  (.seq (.ops [⟨(some 175), (.bin .lss (.t 174) (.t 173)), none⟩])
  (.seq (.cond (.t 175)
    .skip
    (.exit 8))
  (.seq (.block 9 (.seq (.ops [⟨(some 176), (.mv (.t 174)), none⟩,
    ⟨(some 177), (.ixS 1 (.t 172) (.t 174)), none⟩,
    ⟨(some 178), (.load false 1 (.t 177)), none⟩,
    ⟨(some 25), (.mv (.t 176)), none⟩,
    ⟨(some 26), (.mv (.t 178)), none⟩])
  (.draw 0 [] (.early 1 ⟨(some 179), (.load false 1 (.t 24)), none⟩
    (.early 1 ⟨(some 180), (.mv (.t 1)), none⟩
    (.early 1 ⟨(some 181), (.mv (.t 25)), none⟩
    (.early 1 ⟨(some 182), (.ixS 1 (.t 180) (.t 181)), none⟩
    (.early 1 ⟨(some 183), (.load false 1 (.t 182)), none⟩
    (.early 1 ⟨(some 184), (.mv (.t 1)), none⟩
    (.early 1 ⟨(some 185), (.mv (.t 26)), none⟩
    (.early 1 ⟨(some 186), (.ixS 1 (.t 184) (.t 185)), none⟩
    (.early 1 ⟨(some 187), (.load false 1 (.t 186)), none⟩
    (.early 0 ⟨(some 188), (.ixS 1 (.t 179) (.t 183)), none⟩
    (.step 0 0 ⟨none, (.store 1 (.t 188) (.t 187)), none⟩
    .done))))))))))))))
  (.ops [⟨(some 189), (.bin .add (.t 174) (.k (I 1))), none⟩,
    ⟨(some 174), (.mv (.t 189)), none⟩]))))
theorem w8L7 {x : Cx} {Q : QT} {ks : List Kont} {fr : Fr} {H : AHeap} {ms : List Nat} : W x Q c8L7 ks fr H ms = W x Q (.seq (.ops [⟨(some 175), (.bin .lss (.t 174) (.t 173)), none⟩])
    (.seq (.cond (.t 175)
      .skip
      (.exit 8))
    (.seq (.block 9 (.seq (.ops [⟨(some 176), (.mv (.t 174)), none⟩,
      ⟨(some 177), (.ixS 1 (.t 172) (.t 174)), none⟩,
      ⟨(some 178), (.load false 1 (.t 177)), none⟩,
      ⟨(some 25), (.mv (.t 176)), none⟩,
      ⟨(some 26), (.mv (.t 178)), none⟩])
    (.draw 0 [] (.early 1 ⟨(some 179), (.load false 1 (.t 24)), none⟩
      (.early 1 ⟨(some 180), (.mv (.t 1)), none⟩
      (.early 1 ⟨(some 181), (.mv (.t 25)), none⟩
      (.early 1 ⟨(some 182), (.ixS 1 (.t 180) (.t 181)), none⟩
      (.early 1 ⟨(some 183), (.load false 1 (.t 182)), none⟩
      (.early 1 ⟨(some 184), (.mv (.t 1)), none⟩
      (.early 1 ⟨(some 185), (.mv (.t 26)), none⟩
      (.early 1 ⟨(some 186), (.ixS 1 (.t 184) (.t 185)), none⟩
      (.early 1 ⟨(some 187), (.load false 1 (.t 186)), none⟩
      (.early 0 ⟨(some 188), (.ixS 1 (.t 179) (.t 183)), none⟩
      (.step 0 0 ⟨none, (.store 1 (.t 188) (.t 187)), none⟩
      .done))))))))))))))
    (.ops [⟨(some 189), (.bin .add (.t 174) (.k (I 1))), none⟩,
      ⟨(some 174), (.mv (.t 189)), none⟩])))) ks fr H ms := rfl
/- live: [0, 1, 18, 158, 159, 160] -/
def c8L6 : ICode :=
  (.seq (.ops [⟨(some 161), (.bin .lss (.t 160) (.t 159)), none⟩])
  (.seq (.cond (.t 161)
    .skip
    (.exit 6))
  (.seq (.block 7 (.seq (.ops [⟨(some 162), (.ixS 1 (.t 158) (.t 160)), none⟩,
    ⟨(some 163), (.load false 1 (.t 162)), none⟩,
    ⟨(some 23), (.mv (.t 163)), none⟩])
  (.seq (.ops [⟨(some 164), (.mv (.t 0)), none⟩,
    ⟨(some 165), (.len (.t 164)), none⟩,
    ⟨(some 166), (.mksl 1 8 [(I 0)] (.t 165) (.t 165)), none⟩,
    ⟨(some 24), (.alloc [nilSl]), none⟩,
    ⟨none, (.store 1 (.t 24) (.t 166)), none⟩])
  (.seq (.seq (.ops [⟨(some 167), (.mv (.t 23)), none⟩,
    ⟨(some 168), (.mv (.t 0)), none⟩,
    ⟨(some 169), (.len (.t 168)), none⟩,
    ⟨(some 170), (.call (.k (.fn (.func 23) [] [])) [(.t 167), (.t 169)]), none⟩,
    ⟨(some 171), (.un .not (.t 170)), none⟩])
  (.cond (.t 171)
    (.seq (.ops [⟨(some 4), (.mv (.k (B false))), none⟩])
    .ret)
    .skip))
  (.seq (.seq (.ops [⟨(some 172), (.mv (.t 23)), none⟩,
    ⟨(some 173), (.len (.t 172)), none⟩,
    ⟨(some 174), (.mv (.k (I 0))), none⟩])
  (.block 8 (.loop c8L7)))
  c8T8)))))
  c8T9)))
theorem w8L6 {x : Cx} {Q : QT} {ks : List Kont} {fr : Fr} {H : AHeap} {ms : List Nat} : W x Q c8L6 ks fr H ms = W x Q (.seq (.ops [⟨(some 161), (.bin .lss (.t 160) (.t 159)), none⟩])
    (.seq (.cond (.t 161)
      .skip
      (.exit 6))
    (.seq (.block 7 (.seq (.ops [⟨(some 162), (.ixS 1 (.t 158) (.t 160)), none⟩,
      ⟨(some 163), (.load false 1 (.t 162)), none⟩,
      ⟨(some 23), (.mv (.t 163)), none⟩])
    (.seq (.ops [⟨(some 164), (.mv (.t 0)), none⟩,
      ⟨(some 165), (.len (.t 164)), none⟩,
      ⟨(some 166), (.mksl 1 8 [(I 0)] (.t 165) (.t 165)), none⟩,
      ⟨(some 24), (.alloc [nilSl]), none⟩,
      ⟨none, (.store 1 (.t 24) (.t 166)), none⟩])
    (.seq (.seq (.ops [⟨(some 167), (.mv (.t 23)), none⟩,
      ⟨(some 168), (.mv (.t 0)), none⟩,
      ⟨(some 169), (.len (.t 168)), none⟩,
      ⟨(some 170), (.call (.k (.fn (.func 23) [] [])) [(.t 167), (.t 169)]), none⟩,
      ⟨(some 171), (.un .not (.t 170)), none⟩])
    (.cond (.t 171)
      (.seq (.ops [⟨(some 4), (.mv (.k (B false))), none⟩])
      .ret)
      .skip))
    (.seq (.seq (.ops [⟨(some 172), (.mv (.t 23)), none⟩,
      ⟨(some 173), (.len (.t 172)), none⟩,
      ⟨(some 174), (.mv (.k (I 0))), none⟩])
    (.block 8 (.loop c8L7)))
    c8T8)))))
    c8T9))) ks fr H ms := rfl
def c8T5 : ICode :=
  (.keep [0, 1, 16, 18] (.seq (.seq (.ops [⟨(some 158), (.mv (.t 16)), none⟩,
    ⟨(some 159), (.len (.t 158)), none⟩,
    ⟨(some 160), (.mv (.k (I 0))), none⟩])
  (.block 6 (.loop c8L6)))
  c8T10))
theorem w8T5 {x : Cx} {Q : QT} {ks : List Kont} {fr : Fr} {H : AHeap} {ms : List Nat} : W x Q c8T5 ks fr H ms = W x Q (.keep [0, 1, 16, 18] (.seq (.seq (.ops [⟨(some 158), (.mv (.t 16)), none⟩,
      ⟨(some 159), (.len (.t 158)), none⟩,
      ⟨(some 160), (.mv (.k (I 0))), none⟩])
    (.block 6 (.loop c8L6)))
    c8T10)) ks fr H ms := rfl
/- live: [0, 1, 14, 16, 18, 138, 139, 140] -/
def c8L4 : ICode :=
  (.seq (.ops [⟨(some 141), (.bin .lss (.t 140) (.t 139)), none⟩])
  (.seq (.cond (.t 141)
    .skip
    (.exit 4))
  (.seq (.block 5 (.seq (.ops [⟨(some 142), (.mv (.t 140)), none⟩,
    ⟨(some 143), (.ixS 1 (.t 138) (.t 140)), none⟩,
    ⟨(some 144), (.load false 1 (.t 143)), none⟩,
    ⟨(some 20), (.mv (.t 142)), none⟩,
    ⟨(some 21), (.mv (.t 144)), none⟩])
  (.seq (.draw 0 [] (.early 1 ⟨(some 145), (.mv (.t 14)), none⟩
    (.early 1 ⟨(some 146), (.mv (.t 1)), none⟩
    (.early 1 ⟨(some 147), (.mv (.t 20)), none⟩
    (.early 1 ⟨(some 148), (.ixS 1 (.t 146) (.t 147)), none⟩
    (.early 1 ⟨(some 149), (.load false 1 (.t 148)), none⟩
    (.early 1 ⟨(some 150), (.ixS 1 (.t 145) (.t 149)), none⟩
    (.early 1 ⟨(some 151), (.load false 1 (.t 150)), none⟩
    (.early 1 ⟨(some 152), (.mv (.t 1)), none⟩
    (.early 1 ⟨(some 153), (.mv (.t 21)), none⟩
    (.early 1 ⟨(some 154), (.ixS 1 (.t 152) (.t 153)), none⟩
    (.early 1 ⟨(some 155), (.load false 1 (.t 154)), none⟩
    (.early 0 ⟨(some 156), (.bin .neq (.t 151) (.t 155)), none⟩
    .done)))))))))))))
  (.keep [0, 1, 14, 16, 18, 138, 139, 140, 156] (.cond (.t 156)
    (.seq (.ops [⟨(some 4), (.mv (.k (B false))), none⟩])
    .ret)
    .skip)))))
  (.ops [⟨(some 157), (.bin .add (.t 140) (.k (I 1))), none⟩,
    ⟨(some 140), (.mv (.t 157)), none⟩]))))
theorem w8L4 {x : Cx} {Q : QT} {ks : List Kont} {fr : Fr} {H : AHeap} {ms : List Nat} : W x Q c8L4 ks fr H ms = W x Q (.seq (.ops [⟨(some 141), (.bin .lss (.t 140) (.t 139)), none⟩])
    (.seq (.cond (.t 141)
      .skip
      (.exit 4))
    (.seq (.block 5 (.seq (.ops [⟨(some 142), (.mv (.t 140)), none⟩,
      ⟨(some 143), (.ixS 1 (.t 138) (.t 140)), none⟩,
      ⟨(some 144), (.load false 1 (.t 143)), none⟩,
      ⟨(some 20), (.mv (.t 142)), none⟩,
      ⟨(some 21), (.mv (.t 144)), none⟩])
    (.seq (.draw 0 [] (.early 1 ⟨(some 145), (.mv (.t 14)), none⟩
      (.early 1 ⟨(some 146), (.mv (.t 1)), none⟩
      (.early 1 ⟨(some 147), (.mv (.t 20)), none⟩
      (.early 1 ⟨(some 148), (.ixS 1 (.t 146) (.t 147)), none⟩
      (.early 1 ⟨(some 149), (.load false 1 (.t 148)), none⟩
      (.early 1 ⟨(some 150), (.ixS 1 (.t 145) (.t 149)), none⟩
      (.early 1 ⟨(some 151), (.load false 1 (.t 150)), none⟩
      (.early 1 ⟨(some 152), (.mv (.t 1)), none⟩
      (.early 1 ⟨(some 153), (.mv (.t 21)), none⟩
      (.early 1 ⟨(some 154), (.ixS 1 (.t 152) (.t 153)), none⟩
      (.early 1 ⟨(some 155), (.load false 1 (.t 154)), none⟩
      (.early 0 ⟨(some 156), (.bin .neq (.t 151) (.t 155)), none⟩
      .done)))))))))))))
    (.keep [0, 1, 14, 16, 18, 138, 139, 140, 156] (.cond (.t 156)
      (.seq (.ops [⟨(some 4), (.mv (.k (B false))), none⟩])
      .ret)
      .skip)))))
    (.ops [⟨(some 157), (.bin .add (.t 140) (.k (I 1))), none⟩,
      ⟨(some 140), (.mv (.t 157)), none⟩])))) ks fr H ms := rfl
def c8T3 : ICode :=
  (.keep [0, 1, 7] (.seq (.ops [⟨(some 84), (.mv (.t 0)), none⟩,
    ⟨(some 85), (.call (.k (.fn (.func 16) [] [])) [(.t 84)]), none⟩,
    ⟨(some 86), (.call (.k (.fn (.func 15) [] [])) [(.t 85)]), none⟩,
    ⟨(some 83), (.mv (.t 86)), none⟩,
    ⟨(some 87), (.ext (.t 83) 0), none⟩,
    ⟨(some 88), (.ext (.t 83) 1), none⟩,
    ⟨(some 12), (.mv (.t 87)), none⟩,
    ⟨(some 13), (.mv (.t 88)), none⟩])
  (.seq (.ops [⟨(some 90), (.mv (.t 7)), none⟩,
    ⟨(some 91), (.call (.k (.fn (.func 16) [] [])) [(.t 90)]), none⟩,
    ⟨(some 92), (.call (.k (.fn (.func 15) [] [])) [(.t 91)]), none⟩,
    ⟨(some 89), (.mv (.t 92)), none⟩,
    ⟨(some 93), (.ext (.t 89) 0), none⟩,
    ⟨(some 94), (.ext (.t 89) 1), none⟩,
    ⟨(some 14), (.mv (.t 93)), none⟩,
    ⟨(some 15), (.mv (.t 94)), none⟩])
  (.seq (.ops [⟨(some 96), (.mv (.t 0)), none⟩,
    ⟨(some 97), (.call (.k (.fn (.func 16) [] [])) [(.t 96)]), none⟩,
    ⟨(some 98), (.call (.k (.fn (.func 34) [] [])) [(.t 97)]), none⟩,
    ⟨(some 95), (.mv (.t 98)), none⟩,
    ⟨(some 99), (.ext (.t 95) 0), none⟩,
    ⟨(some 100), (.ext (.t 95) 1), none⟩,
    ⟨(some 16), (.mv (.t 99)), none⟩,
    ⟨(some 17), (.mv (.t 100)), none⟩])
  (.seq (.ops [⟨(some 102), (.mv (.t 7)), none⟩,
    ⟨(some 103), (.call (.k (.fn (.func 34) [] [])) [(.t 102)]), none⟩,
    ⟨(some 101), (.mv (.t 103)), none⟩,
    ⟨(some 104), (.ext (.t 101) 0), none⟩,
    ⟨(some 105), (.ext (.t 101) 1), none⟩,
    ⟨(some 18), (.mv (.t 104)), none⟩,
    ⟨(some 19), (.mv (.t 105)), none⟩])
  (.seq (.seq (.ops [⟨(some 106), (.mv (.t 13)), none⟩,
    ⟨(some 107), (.bin .neq (.t 106) (.k (I 0))), none⟩,
    ⟨(some 108), (.mv (.t 107)), none⟩,
    ⟨(some 109), (.mv (.t 15)), (some (108, false))⟩,
    ⟨(some 110), (.bin .neq (.t 109) (.k (I 0))), (some (108, false))⟩,
    ⟨(some 111), (.pick (.t 108) (.k (B true)) (.t 110)), none⟩,
    ⟨(some 112), (.mv (.t 111)), none⟩,
    ⟨(some 113), (.mv (.t 17)), (some (112, false))⟩,
    ⟨(some 114), (.mv (.t 19)), (some (112, false))⟩,
    ⟨(some 115), (.bin .neq (.t 113) (.t 114)), (some (112, false))⟩,
    ⟨(some 116), (.pick (.t 112) (.k (B true)) (.t 115)), none⟩,
    ⟨(some 117), (.mv (.t 116)), none⟩,
    ⟨(some 118), (.mv (.t 16)), (some (117, false))⟩,
    ⟨(some 119), (.len (.t 118)), (some (117, false))⟩,
    ⟨(some 120), (.mv (.t 18)), (some (117, false))⟩,
    ⟨(some 121), (.len (.t 120)), (some (117, false))⟩,
    ⟨(some 122), (.bin .neq (.t 119) (.t 121)), (some (117, false))⟩,
    ⟨(some 123), (.pick (.t 117) (.k (B true)) (.t 122)), none⟩,
    ⟨(some 124), (.mv (.t 123)), none⟩,
    ⟨(some 125), (.mv (.t 12)), (some (124, false))⟩,
    ⟨(some 126), (.mv (.t 0)), (some (124, false))⟩,
    ⟨(some 127), (.len (.t 126)), (some (124, false))⟩,
    ⟨(some 128), (.call (.k (.fn (.func 23) [] [])) [(.t 125), (.t 127)]), (some (124, false))⟩,
    ⟨(some 129), (.un .not (.t 128)), (some (124, false))⟩,
    ⟨(some 130), (.pick (.t 124) (.k (B true)) (.t 129)), none⟩,
    ⟨(some 131), (.mv (.t 130)), none⟩,
    ⟨(some 132), (.mv (.t 14)), (some (131, false))⟩,
    ⟨(some 133), (.mv (.t 0)), (some (131, false))⟩,
    ⟨(some 134), (.len (.t 133)), (some (131, false))⟩,
    ⟨(some 135), (.call (.k (.fn (.func 23) [] [])) [(.t 132), (.t 134)]), (some (131, false))⟩,
    ⟨(some 136), (.un .not (.t 135)), (some (131, false))⟩,
    ⟨(some 137), (.pick (.t 131) (.k (B true)) (.t 136)), none⟩])
  (.cond (.t 137)
    (.seq (.ops [⟨(some 4), (.mv (.k (B false))), none⟩])
    .ret)
    .skip))
  (.seq (.seq (.ops [⟨(some 138), (.mv (.t 12)), none⟩,
    ⟨(some 139), (.len (.t 138)), none⟩,
    ⟨(some 140), (.mv (.k (I 0))), none⟩])
  (.block 4 (.loop c8L4)))
  c8T5)))))))
theorem w8T3 {x : Cx} {Q : QT} {ks : List Kont} {fr : Fr} {H : AHeap} {ms : List Nat} : W x Q c8T3 ks fr H ms = W x Q (.keep [0, 1, 7] (.seq (.ops [⟨(some 84), (.mv (.t 0)), none⟩,
      ⟨(some 85), (.call (.k (.fn (.func 16) [] [])) [(.t 84)]), none⟩,
      ⟨(some 86), (.call (.k (.fn (.func 15) [] [])) [(.t 85)]), none⟩,
      ⟨(some 83), (.mv (.t 86)), none⟩,
      ⟨(some 87), (.ext (.t 83) 0), none⟩,
      ⟨(some 88), (.ext (.t 83) 1), none⟩,
      ⟨(some 12), (.mv (.t 87)), none⟩,
      ⟨(some 13), (.mv (.t 88)), none⟩])
    (.seq (.ops [⟨(some 90), (.mv (.t 7)), none⟩,
      ⟨(some 91), (.call (.k (.fn (.func 16) [] [])) [(.t 90)]), none⟩,
      ⟨(some 92), (.call (.k (.fn (.func 15) [] [])) [(.t 91)]), none⟩,
      ⟨(some 89), (.mv (.t 92)), none⟩,
      ⟨(some 93), (.ext (.t 89) 0), none⟩,
      ⟨(some 94), (.ext (.t 89) 1), none⟩,
      ⟨(some 14), (.mv (.t 93)), none⟩,
      ⟨(some 15), (.mv (.t 94)), none⟩])
    (.seq (.ops [⟨(some 96), (.mv (.t 0)), none⟩,
      ⟨(some 97), (.call (.k (.fn (.func 16) [] [])) [(.t 96)]), none⟩,
      ⟨(some 98), (.call (.k (.fn (.func 34) [] [])) [(.t 97)]), none⟩,
      ⟨(some 95), (.mv (.t 98)), none⟩,
      ⟨(some 99), (.ext (.t 95) 0), none⟩,
      ⟨(some 100), (.ext (.t 95) 1), none⟩,
      ⟨(some 16), (.mv (.t 99)), none⟩,
      ⟨(some 17), (.mv (.t 100)), none⟩])
    (.seq (.ops [⟨(some 102), (.mv (.t 7)), none⟩,
      ⟨(some 103), (.call (.k (.fn (.func 34) [] [])) [(.t 102)]), none⟩,
      ⟨(some 101), (.mv (.t 103)), none⟩,
      ⟨(some 104), (.ext (.t 101) 0), none⟩,
      ⟨(some 105), (.ext (.t 101) 1), none⟩,
      ⟨(some 18), (.mv (.t 104)), none⟩,
      ⟨(some 19), (.mv (.t 105)), none⟩])
    (.seq (.seq (.ops [⟨(some 106), (.mv (.t 13)), none⟩,
      ⟨(some 107), (.bin .neq (.t 106) (.k (I 0))), none⟩,
      ⟨(some 108), (.mv (.t 107)), none⟩,
      ⟨(some 109), (.mv (.t 15)), (some (108, false))⟩,
      ⟨(some 110), (.bin .neq (.t 109) (.k (I 0))), (some (108, false))⟩,
      ⟨(some 111), (.pick (.t 108) (.k (B true)) (.t 110)), none⟩,
      ⟨(some 112), (.mv (.t 111)), none⟩,
      ⟨(some 113), (.mv (.t 17)), (some (112, false))⟩,
      ⟨(some 114), (.mv (.t 19)), (some (112, false))⟩,
      ⟨(some 115), (.bin .neq (.t 113) (.t 114)), (some (112, false))⟩,
      ⟨(some 116), (.pick (.t 112) (.k (B true)) (.t 115)), none⟩,
      ⟨(some 117), (.mv (.t 116)), none⟩,
      ⟨(some 118), (.mv (.t 16)), (some (117, false))⟩,
      ⟨(some 119), (.len (.t 118)), (some (117, false))⟩,
      ⟨(some 120), (.mv (.t 18)), (some (117, false))⟩,
      ⟨(some 121), (.len (.t 120)), (some (117, false))⟩,
      ⟨(some 122), (.bin .neq (.t 119) (.t 121)), (some (117, false))⟩,
      ⟨(some 123), (.pick (.t 117) (.k (B true)) (.t 122)), none⟩,
      ⟨(some 124), (.mv (.t 123)), none⟩,
      ⟨(some 125), (.mv (.t 12)), (some (124, false))⟩,
      ⟨(some 126), (.mv (.t 0)), (some (124, false))⟩,
      ⟨(some 127), (.len (.t 126)), (some (124, false))⟩,
      ⟨(some 128), (.call (.k (.fn (.func 23) [] [])) [(.t 125), (.t 127)]), (some (124, false))⟩,
      ⟨(some 129), (.un .not (.t 128)), (some (124, false))⟩,
      ⟨(some 130), (.pick (.t 124) (.k (B true)) (.t 129)), none⟩,
      ⟨(some 131), (.mv (.t 130)), none⟩,
      ⟨(some 132), (.mv (.t 14)), (some (131, false))⟩,
      ⟨(some 133), (.mv (.t 0)), (some (131, false))⟩,
      ⟨(some 134), (.len (.t 133)), (some (131, false))⟩,
      ⟨(some 135), (.call (.k (.fn (.func 23) [] [])) [(.t 132), (.t 134)]), (some (131, false))⟩,
      ⟨(some 136), (.un .not (.t 135)), (some (131, false))⟩,
      ⟨(some 137), (.pick (.t 131) (.k (B true)) (.t 136)), none⟩])
    (.cond (.t 137)
      (.seq (.ops [⟨(some 4), (.mv (.k (B false))), none⟩])
      .ret)
      .skip))
    (.seq (.seq (.ops [⟨(some 138), (.mv (.t 12)), none⟩,
      ⟨(some 139), (.len (.t 138)), none⟩,
      ⟨(some 140), (.mv (.k (I 0))), none⟩])
    (.block 4 (.loop c8L4)))
    c8T5))))))) ks fr H ms := rfl
def c8T2 : ICode :=
  (.keep [0, 1, 7, 49, 50, 51] (.ops [⟨(some 82), (.bin .add (.t 51) (.k (I 1))), none⟩,
    ⟨(some 51), (.mv (.t 82)), none⟩]))
theorem w8T2 {x : Cx} {Q : QT} {ks : List Kont} {fr : Fr} {H : AHeap} {ms : List Nat} : W x Q c8T2 ks fr H ms = W x Q (.keep [0, 1, 7, 49, 50, 51] (.ops [⟨(some 82), (.bin .add (.t 51) (.k (I 1))), none⟩,
      ⟨(some 51), (.mv (.t 82)), none⟩])) ks fr H ms := rfl
/- live: [0, 1, 7, 8, 49, 50, 51, 56, 57, 58] -/
def c8L1 : ICode :=
  (.seq (.ops [⟨(some 59), (.bin .lss (.t 58) (.t 57)), none⟩])
  (.seq (.cond (.t 59)
    .skip
    (.exit 2))
  (.seq (.block 3 (.seq (.ops [⟨(some 60), (.ixS 1 (.t 56) (.t 58)), none⟩,
    ⟨(some 61), (.load false 1 (.t 60)), none⟩,
    ⟨(some 11), (.mv (.t 61)), none⟩])
  (.draw 2 [] (.early 2 ⟨(some 62), (.mv (.t 7)), none⟩
    (.early 2 ⟨(some 63), (.mv (.t 1)), none⟩
    (.early 2 ⟨(some 64), (.mv (.t 8)), none⟩
    (.early 2 ⟨(some 65), (.ixS 1 (.t 63) (.t 64)), none⟩
    (.early 2 ⟨(some 66), (.load false 1 (.t 65)), none⟩
    (.early 1 ⟨(some 67), (.mv (.t 7)), none⟩
    (.early 1 ⟨(some 68), (.mv (.t 1)), none⟩
    (.early 1 ⟨(some 69), (.mv (.t 8)), none⟩
    (.early 1 ⟨(some 70), (.ixS 1 (.t 68) (.t 69)), none⟩
    (.early 1 ⟨(some 71), (.load false 1 (.t 70)), none⟩
    (.early 1 ⟨(some 72), (.ixS 1 (.t 67) (.t 71)), none⟩
    (.early 1 ⟨(some 73), (.load false 1 (.t 72)), none⟩
    (.early 1 ⟨(some 74), (.mv (.t 1)), none⟩
    (.early 1 ⟨(some 75), (.mv (.t 11)), none⟩
    (.early 1 ⟨(some 76), (.ixS 1 (.t 74) (.t 75)), none⟩
    (.early 1 ⟨(some 77), (.load false 1 (.t 76)), none⟩
    (.step 0 1 ⟨(some 78), (.bslice 1 1 [(I 0)] [(0, 1, (.t 77))]), none⟩
    (.step 1 1 ⟨(some 79), (.append 1 8 (.t 73) (.t 78)), none⟩
    (.early 0 ⟨(some 80), (.ixS 1 (.t 62) (.t 66)), none⟩
    (.step 2 0 ⟨none, (.store 1 (.t 80) (.t 79)), none⟩
    .done)))))))))))))))))))))))
  (.ops [⟨(some 81), (.bin .add (.t 58) (.k (I 1))), none⟩,
    ⟨(some 58), (.mv (.t 81)), none⟩]))))
theorem w8L1 {x : Cx} {Q : QT} {ks : List Kont} {fr : Fr} {H : AHeap} {ms : List Nat} : W x Q c8L1 ks fr H ms = W x Q (.seq (.ops [⟨(some 59), (.bin .lss (.t 58) (.t 57)), none⟩])
    (.seq (.cond (.t 59)
      .skip
      (.exit 2))
    (.seq (.block 3 (.seq (.ops [⟨(some 60), (.ixS 1 (.t 56) (.t 58)), none⟩,
      ⟨(some 61), (.load false 1 (.t 60)), none⟩,
      ⟨(some 11), (.mv (.t 61)), none⟩])
    (.draw 2 [] (.early 2 ⟨(some 62), (.mv (.t 7)), none⟩
      (.early 2 ⟨(some 63), (.mv (.t 1)), none⟩
      (.early 2 ⟨(some 64), (.mv (.t 8)), none⟩
      (.early 2 ⟨(some 65), (.ixS 1 (.t 63) (.t 64)), none⟩
      (.early 2 ⟨(some 66), (.load false 1 (.t 65)), none⟩
      (.early 1 ⟨(some 67), (.mv (.t 7)), none⟩
      (.early 1 ⟨(some 68), (.mv (.t 1)), none⟩
      (.early 1 ⟨(some 69), (.mv (.t 8)), none⟩
      (.early 1 ⟨(some 70), (.ixS 1 (.t 68) (.t 69)), none⟩
      (.early 1 ⟨(some 71), (.load false 1 (.t 70)), none⟩
      (.early 1 ⟨(some 72), (.ixS 1 (.t 67) (.t 71)), none⟩
      (.early 1 ⟨(some 73), (.load false 1 (.t 72)), none⟩
      (.early 1 ⟨(some 74), (.mv (.t 1)), none⟩
      (.early 1 ⟨(some 75), (.mv (.t 11)), none⟩
      (.early 1 ⟨(some 76), (.ixS 1 (.t 74) (.t 75)), none⟩
      (.early 1 ⟨(some 77), (.load false 1 (.t 76)), none⟩
      (.step 0 1 ⟨(some 78), (.bslice 1 1 [(I 0)] [(0, 1, (.t 77))]), none⟩
      (.step 1 1 ⟨(some 79), (.append 1 8 (.t 73) (.t 78)), none⟩
      (.early 0 ⟨(some 80), (.ixS 1 (.t 62) (.t 66)), none⟩
      (.step 2 0 ⟨none, (.store 1 (.t 80) (.t 79)), none⟩
      .done)))))))))))))))))))))))
    (.ops [⟨(some 81), (.bin .add (.t 58) (.k (I 1))), none⟩,
      ⟨(some 58), (.mv (.t 81)), none⟩])))) ks fr H ms := rfl
/- live: [0, 1, 7, 49, 50, 51] -/
def c8L0 : ICode :=
  (.seq (.ops [⟨(some 52), (.bin .lss (.t 51) (.t 50)), none⟩])
  (.seq (.cond (.t 52)
    .skip
    (.exit 0))
  (.seq (.block 1 (.seq (.ops [⟨(some 53), (.mv (.t 51)), none⟩,
    ⟨(some 54), (.ixS 1 (.t 49) (.t 51)), none⟩,
    ⟨(some 55), (.load false 1 (.t 54)), none⟩,
    ⟨(some 8), (.mv (.t 53)), none⟩,
    ⟨(some 9), (.mv (.t 55)), none⟩])
  (.seq (.ops [⟨(some 56), (.mv (.t 9)), none⟩,
    ⟨(some 57), (.len (.t 56)), none⟩,
    ⟨(some 58), (.mv (.k (I 0))), none⟩])
  (.block 2 (.loop c8L1)))))
  c8T2)))
theorem w8L0 {x : Cx} {Q : QT} {ks : List Kont} {fr : Fr} {H : AHeap} {ms : List Nat} : W x Q c8L0 ks fr H ms = W x Q (.seq (.ops [⟨(some 52), (.bin .lss (.t 51) (.t 50)), none⟩])
    (.seq (.cond (.t 52)
      .skip
      (.exit 0))
    (.seq (.block 1 (.seq (.ops [⟨(some 53), (.mv (.t 51)), none⟩,
      ⟨(some 54), (.ixS 1 (.t 49) (.t 51)), none⟩,
      ⟨(some 55), (.load false 1 (.t 54)), none⟩,
      ⟨(some 8), (.mv (.t 53)), none⟩,
      ⟨(some 9), (.mv (.t 55)), none⟩])
    (.seq (.ops [⟨(some 56), (.mv (.t 9)), none⟩,
      ⟨(some 57), (.len (.t 56)), none⟩,
      ⟨(some 58), (.mv (.k (I 0))), none⟩])
    (.block 2 (.loop c8L1)))))
    c8T2))) ks fr H ms := rfl
def c8 : ICode :=
  (.seq (.ops [⟨(some 4), (.mv (.k (B false))), none⟩])
  (.seq (.seq (.ops [⟨(some 27), (.mv (.t 0)), none⟩,
    ⟨(some 28), (.mv (.t 1)), none⟩,
    ⟨(some 29), (.call (.k (.fn (.func 28) [] [])) [(.t 27), (.t 28)]), none⟩,
    ⟨(some 30), (.un .not (.t 29)), none⟩])
  (.cond (.t 30)
    (.seq (.ops [⟨(some 32), (.mv (.t 0)), none⟩,
      ⟨(some 33), (.call (.k (.fn (.func 16) [] [])) [(.t 32)]), none⟩,
      ⟨(some 34), (.call (.k (.fn (.func 15) [] [])) [(.t 33)]), none⟩,
      ⟨(some 31), (.mv (.t 34)), none⟩,
      ⟨(some 35), (.ext (.t 31) 0), none⟩,
      ⟨(some 36), (.ext (.t 31) 1), none⟩,
      ⟨(some 5), (.mv (.t 35)), none⟩,
      ⟨(some 6), (.mv (.t 36)), none⟩])
    (.seq (.ops [⟨(some 37), (.mv (.t 6)), none⟩,
      ⟨(some 38), (.bin .eql (.t 37) (.k (I 0))), none⟩,
      ⟨(some 39), (.mv (.t 38)), none⟩,
      ⟨(some 40), (.mv (.t 6)), (some (39, false))⟩,
      ⟨(some 41), (.bin .eql (.t 40) (.k (I 2))), (some (39, false))⟩,
      ⟨(some 42), (.pick (.t 39) (.k (B true)) (.t 41)), none⟩,
      ⟨(some 43), (.mv (.t 42)), none⟩,
      ⟨(some 44), (.call (.k (.fn (.func 19) [] [])) []), (some (43, true))⟩,
      ⟨(some 45), (.pick (.t 43) (.t 44) (.k (B false))), none⟩,
      ⟨(some 4), (.mv (.t 45)), none⟩])
    .ret))
    .skip))
  (.seq (.ops [⟨(some 46), (.mv (.t 0)), none⟩,
    ⟨(some 47), (.len (.t 46)), none⟩,
    ⟨(some 48), (.mksl 1 24 [nilSl] (.t 47) (.t 47)), none⟩,
    ⟨(some 7), (.mv (.t 48)), none⟩])
  (.seq (.seq (.ops [⟨(some 49), (.mv (.t 0)), none⟩,
    ⟨(some 50), (.len (.t 49)), none⟩,
    ⟨(some 51), (.mv (.k (I 0))), none⟩])
  (.block 0 (.loop c8L0)))
  c8T3))))
theorem w8 {x : Cx} {Q : QT} {ks : List Kont} {fr : Fr} {H : AHeap} {ms : List Nat} : W x Q c8 ks fr H ms = W x Q (.seq (.ops [⟨(some 4), (.mv (.k (B false))), none⟩])
    (.seq (.seq (.ops [⟨(some 27), (.mv (.t 0)), none⟩,
      ⟨(some 28), (.mv (.t 1)), none⟩,
      ⟨(some 29), (.call (.k (.fn (.func 28) [] [])) [(.t 27), (.t 28)]), none⟩,
      ⟨(some 30), (.un .not (.t 29)), none⟩])
    (.cond (.t 30)
      (.seq (.ops [⟨(some 32), (.mv (.t 0)), none⟩,
        ⟨(some 33), (.call (.k (.fn (.func 16) [] [])) [(.t 32)]), none⟩,
        ⟨(some 34), (.call (.k (.fn (.func 15) [] [])) [(.t 33)]), none⟩,
        ⟨(some 31), (.mv (.t 34)), none⟩,
        ⟨(some 35), (.ext (.t 31) 0), none⟩,
        ⟨(some 36), (.ext (.t 31) 1), none⟩,
        ⟨(some 5), (.mv (.t 35)), none⟩,
        ⟨(some 6), (.mv (.t 36)), none⟩])
      (.seq (.ops [⟨(some 37), (.mv (.t 6)), none⟩,
        ⟨(some 38), (.bin .eql (.t 37) (.k (I 0))), none⟩,
        ⟨(some 39), (.mv (.t 38)), none⟩,
        ⟨(some 40), (.mv (.t 6)), (some (39, false))⟩,
        ⟨(some 41), (.bin .eql (.t 40) (.k (I 2))), (some (39, false))⟩,
        ⟨(some 42), (.pick (.t 39) (.k (B true)) (.t 41)), none⟩,
        ⟨(some 43), (.mv (.t 42)), none⟩,
        ⟨(some 44), (.call (.k (.fn (.func 19) [] [])) []), (some (43, true))⟩,
        ⟨(some 45), (.pick (.t 43) (.t 44) (.k (B false))), none⟩,
        ⟨(some 4), (.mv (.t 45)), none⟩])
      .ret))
      .skip))
    (.seq (.ops [⟨(some 46), (.mv (.t 0)), none⟩,
      ⟨(some 47), (.len (.t 46)), none⟩,
      ⟨(some 48), (.mksl 1 24 [nilSl] (.t 47) (.t 47)), none⟩,
      ⟨(some 7), (.mv (.t 48)), none⟩])
    (.seq (.seq (.ops [⟨(some 49), (.mv (.t 0)), none⟩,
      ⟨(some 50), (.len (.t 49)), none⟩,
      ⟨(some 51), (.mv (.k (I 0))), none⟩])
    (.block 0 (.loop c8L0)))
    c8T3)))) ks fr H ms := rfl
def r8 : List IRes := [(.tmp 4)]
theorem t8 : Try.f8.body.bind (trCode Try.prog Try.f8.ntmps) = some (strip c8) := by kernel_rfl
theorem q8 : trRes Try.prog Try.f8.results.toList = some r8 := by kernel_rfl
theorem fn8 : Try.prog.funcs[8]? = some Try.f8 := by kernel_rfl
theorem nn8 : (Try.f8.name == "runtime.NumGoroutine") = false := by kernel_rfl
theorem nt8 : Try.f8.ntmps = 196 := by kernel_rfl
def c10T1 : ICode :=
  (.keep [0, 1, 5] (.seq (.ops [⟨(some 78), (.mv (.t 0)), none⟩,
    ⟨(some 79), (.call (.k (.fn (.func 16) [] [])) [(.t 78)]), none⟩,
    ⟨(some 80), (.call (.k (.fn (.func 34) [] [])) [(.t 79)]), none⟩,
    ⟨(some 77), (.mv (.t 80)), none⟩,
    ⟨(some 81), (.ext (.t 77) 0), none⟩,
    ⟨(some 82), (.ext (.t 77) 1), none⟩,
    ⟨(some 13), (.mv (.t 81)), none⟩,
    ⟨(some 6), (.mv (.t 82)), none⟩])
  (.seq (.seq (.ops [⟨(some 83), (.mv (.t 0)), none⟩,
    ⟨(some 84), (.len (.t 83)), none⟩,
    ⟨(some 85), (.bin .leq (.t 84) (.k (I 5))), none⟩,
    ⟨(some 86), (.mv (.t 85)), none⟩,
    ⟨(some 87), (.mv (.t 6)), (some (86, true))⟩,
    ⟨(some 88), (.bin .neq (.t 87) (.k (I 0))), (some (86, true))⟩,
    ⟨(some 89), (.mv (.t 88)), (some (86, true))⟩,
    ⟨(some 90), (.mv (.t 13)), (some (89, false))⟩,
    ⟨(some 91), (.mkfn (.func 44) [] [(.t 5)]), (some (89, false))⟩,
    ⟨(some 92), (.call (.k (.fn (.func 35) [] [])) [(.t 90), (.t 91)]), (some (89, false))⟩,
    ⟨(some 93), (.un .not (.t 92)), (some (89, false))⟩,
    ⟨(some 94), (.pick (.t 89) (.k (B true)) (.t 93)), (some (86, true))⟩,
    ⟨(some 95), (.pick (.t 86) (.t 94) (.k (B false))), none⟩,
    ⟨(some 96), (.mv (.t 95)), none⟩,
    ⟨(some 97), (.mv (.t 0)), (some (96, false))⟩,
    ⟨(some 98), (.len (.t 97)), (some (96, false))⟩,
    ⟨(some 99), (.bin .gtr (.t 98) (.k (I 5))), (some (96, false))⟩,
    ⟨(some 100), (.mv (.t 99)), (some (96, false))⟩,
    ⟨(some 101), (.mv (.t 6)), (some (100, true))⟩,
    ⟨(some 102), (.bin .neq (.t 101) (.k (I 2))), (some (100, true))⟩,
    ⟨(some 103), (.pick (.t 100) (.t 102) (.k (B false))), (some (96, false))⟩,
    ⟨(some 104), (.pick (.t 96) (.k (B true)) (.t 103)), none⟩])
  (.cond (.t 104)
    (.seq (.ops [⟨(some 4), (.mv (.k (B false))), none⟩])
    .ret)
    .skip))
  (.seq (.seq (.ops [⟨(some 105), (.mv (.t 0)), none⟩,
    ⟨(some 106), (.mv (.t 1)), none⟩,
    ⟨(some 107), (.call (.k (.fn (.func 28) [] [])) [(.t 105), (.t 106)]), none⟩,
    ⟨(some 108), (.un .not (.t 107)), none⟩])
  (.cond (.t 108)
    (.seq (.ops [⟨(some 109), (.call (.k (.fn (.func 19) [] [])) []), none⟩,
      ⟨(some 4), (.mv (.t 109)), none⟩])
    .ret)
    .skip))
  (.seq (.ops [⟨(some 111), (.mv (.t 0)), none⟩,
    ⟨(some 112), (.call (.k (.fn (.func 16) [] [])) [(.t 111)]), none⟩,
    ⟨(some 113), (.mv (.t 1)), none⟩,
    ⟨(some 114), (.call (.k (.fn (.func 27) [] [])) [(.t 113)]), none⟩,
    ⟨(some 115), (.call (.k (.fn (.func 37) [] [])) [(.t 112), (.t 114)]), none⟩,
    ⟨(some 110), (.mv (.t 115)), none⟩,
    ⟨(some 116), (.ext (.t 110) 0), none⟩,
    ⟨(some 117), (.ext (.t 110) 1), none⟩,
    ⟨(some 14), (.mv (.t 116)), none⟩,
    ⟨(some 6), (.mv (.t 117)), none⟩])
  (.seq (.ops [⟨(some 118), (.mv (.t 6)), none⟩,
    ⟨(some 119), (.bin .eql (.t 118) (.k (I 4))), none⟩,
    ⟨(some 120), (.mv (.t 1)), none⟩,
    ⟨(some 121), (.load false 1 (.t 5)), none⟩,
    ⟨(some 122), (.call (.k (.fn (.func 20) [] [])) [(.t 120), (.t 121)]), none⟩,
    ⟨(some 123), (.eqb false (.t 119) (.t 122)), none⟩,
    ⟨(some 124), (.mv (.t 123)), none⟩,
    ⟨(some 125), (.mv (.t 6)), (some (124, true))⟩,
    ⟨(some 126), (.bin .eql (.t 125) (.k (I 4))), (some (124, true))⟩,
    ⟨(some 127), (.mv (.t 126)), (some (124, true))⟩,
    ⟨(some 128), (.mv (.t 6)), (some (127, false))⟩,
    ⟨(some 129), (.bin .eql (.t 128) (.k (I 0))), (some (127, false))⟩,
    ⟨(some 130), (.mv (.t 129)), (some (127, false))⟩,
    ⟨(some 131), (.mv (.t 14)), (some (130, true))⟩,
    ⟨(some 132), (.bin .gtr (.t 131) (.k (I 0))), (some (130, true))⟩,
    ⟨(some 133), (.pick (.t 130) (.t 132) (.k (B false))), (some (127, false))⟩,
    ⟨(some 134), (.mv (.t 133)), (some (127, false))⟩,
    ⟨(some 135), (.mv (.t 14)), (some (134, true))⟩,
    ⟨(some 136), (.mv (.t 0)), (some (134, true))⟩,
    ⟨(some 137), (.len (.t 136)), (some (134, true))⟩,
    ⟨(some 138), (.bin .shl (.k (I 1)) (.t 137)), (some (134, true))⟩,
    ⟨(some 139), (.bin .lss (.t 135) (.t 138)), (some (134, true))⟩,
    ⟨(some 140), (.pick (.t 134) (.t 139) (.k (B false))), (some (127, false))⟩,
    ⟨(some 141), (.pick (.t 127) (.k (B true)) (.t 140)), (some (124, true))⟩,
    ⟨(some 142), (.pick (.t 124) (.t 141) (.k (B false))), none⟩,
    ⟨(some 143), (.mv (.t 142)), none⟩,
    ⟨(some 144), (.call (.k (.fn (.func 19) [] [])) []), (some (143, true))⟩,
    ⟨(some 145), (.pick (.t 143) (.t 144) (.k (B false))), none⟩,
    ⟨(some 4), (.mv (.t 145)), none⟩])
  .ret))))))
theorem w10T1 {x : Cx} {Q : QT} {ks : List Kont} {fr : Fr} {H : AHeap} {ms : List Nat} : W x Q c10T1 ks fr H ms = W x Q (.keep [0, 1, 5] (.seq (.ops [⟨(some 78), (.mv (.t 0)), none⟩,
      ⟨(some 79), (.call (.k (.fn (.func 16) [] [])) [(.t 78)]), none⟩,
      ⟨(some 80), (.call (.k (.fn (.func 34) [] [])) [(.t 79)]), none⟩,
      ⟨(some 77), (.mv (.t 80)), none⟩,
      ⟨(some 81), (.ext (.t 77) 0), none⟩,
      ⟨(some 82), (.ext (.t 77) 1), none⟩,
      ⟨(some 13), (.mv (.t 81)), none⟩,
      ⟨(some 6), (.mv (.t 82)), none⟩])
    (.seq (.seq (.ops [⟨(some 83), (.mv (.t 0)), none⟩,
      ⟨(some 84), (.len (.t 83)), none⟩,
      ⟨(some 85), (.bin .leq (.t 84) (.k (I 5))), none⟩,
      ⟨(some 86), (.mv (.t 85)), none⟩,
      ⟨(some 87), (.mv (.t 6)), (some (86, true))⟩,
      ⟨(some 88), (.bin .neq (.t 87) (.k (I 0))), (some (86, true))⟩,
      ⟨(some 89), (.mv (.t 88)), (some (86, true))⟩,
      ⟨(some 90), (.mv (.t 13)), (some (89, false))⟩,
      ⟨(some 91), (.mkfn (.func 44) [] [(.t 5)]), (some (89, false))⟩,
      ⟨(some 92), (.call (.k (.fn (.func 35) [] [])) [(.t 90), (.t 91)]), (some (89, false))⟩,
      ⟨(some 93), (.un .not (.t 92)), (some (89, false))⟩,
      ⟨(some 94), (.pick (.t 89) (.k (B true)) (.t 93)), (some (86, true))⟩,
      ⟨(some 95), (.pick (.t 86) (.t 94) (.k (B false))), none⟩,
      ⟨(some 96), (.mv (.t 95)), none⟩,
      ⟨(some 97), (.mv (.t 0)), (some (96, false))⟩,
      ⟨(some 98), (.len (.t 97)), (some (96, false))⟩,
      ⟨(some 99), (.bin .gtr (.t 98) (.k (I 5))), (some (96, false))⟩,
      ⟨(some 100), (.mv (.t 99)), (some (96, false))⟩,
      ⟨(some 101), (.mv (.t 6)), (some (100, true))⟩,
      ⟨(some 102), (.bin .neq (.t 101) (.k (I 2))), (some (100, true))⟩,
      ⟨(some 103), (.pick (.t 100) (.t 102) (.k (B false))), (some (96, false))⟩,
      ⟨(some 104), (.pick (.t 96) (.k (B true)) (.t 103)), none⟩])
    (.cond (.t 104)
      (.seq (.ops [⟨(some 4), (.mv (.k (B false))), none⟩])
      .ret)
      .skip))
    (.seq (.seq (.ops [⟨(some 105), (.mv (.t 0)), none⟩,
      ⟨(some 106), (.mv (.t 1)), none⟩,
      ⟨(some 107), (.call (.k (.fn (.func 28) [] [])) [(.t 105), (.t 106)]), none⟩,
      ⟨(some 108), (.un .not (.t 107)), none⟩])
    (.cond (.t 108)
      (.seq (.ops [⟨(some 109), (.call (.k (.fn (.func 19) [] [])) []), none⟩,
        ⟨(some 4), (.mv (.t 109)), none⟩])
      .ret)
      .skip))
    (.seq (.ops [⟨(some 111), (.mv (.t 0)), none⟩,
      ⟨(some 112), (.call (.k (.fn (.func 16) [] [])) [(.t 111)]), none⟩,
      ⟨(some 113), (.mv (.t 1)), none⟩,
      ⟨(some 114), (.call (.k (.fn (.func 27) [] [])) [(.t 113)]), none⟩,
      ⟨(some 115), (.call (.k (.fn (.func 37) [] [])) [(.t 112), (.t 114)]), none⟩,
      ⟨(some 110), (.mv (.t 115)), none⟩,
      ⟨(some 116), (.ext (.t 110) 0), none⟩,
      ⟨(some 117), (.ext (.t 110) 1), none⟩,
      ⟨(some 14), (.mv (.t 116)), none⟩,
      ⟨(some 6), (.mv (.t 117)), none⟩])
    (.seq (.ops [⟨(some 118), (.mv (.t 6)), none⟩,
      ⟨(some 119), (.bin .eql (.t 118) (.k (I 4))), none⟩,
      ⟨(some 120), (.mv (.t 1)), none⟩,
      ⟨(some 121), (.load false 1 (.t 5)), none⟩,
      ⟨(some 122), (.call (.k (.fn (.func 20) [] [])) [(.t 120), (.t 121)]), none⟩,
      ⟨(some 123), (.eqb false (.t 119) (.t 122)), none⟩,
      ⟨(some 124), (.mv (.t 123)), none⟩,
      ⟨(some 125), (.mv (.t 6)), (some (124, true))⟩,
      ⟨(some 126), (.bin .eql (.t 125) (.k (I 4))), (some (124, true))⟩,
      ⟨(some 127), (.mv (.t 126)), (some (124, true))⟩,
      ⟨(some 128), (.mv (.t 6)), (some (127, false))⟩,
      ⟨(some 129), (.bin .eql (.t 128) (.k (I 0))), (some (127, false))⟩,
      ⟨(some 130), (.mv (.t 129)), (some (127, false))⟩,
      ⟨(some 131), (.mv (.t 14)), (some (130, true))⟩,
      ⟨(some 132), (.bin .gtr (.t 131) (.k (I 0))), (some (130, true))⟩,
      ⟨(some 133), (.pick (.t 130) (.t 132) (.k (B false))), (some (127, false))⟩,
      ⟨(some 134), (.mv (.t 133)), (some (127, false))⟩,
      ⟨(some 135), (.mv (.t 14)), (some (134, true))⟩,
      ⟨(some 136), (.mv (.t 0)), (some (134, true))⟩,
      ⟨(some 137), (.len (.t 136)), (some (134, true))⟩,
      ⟨(some 138), (.bin .shl (.k (I 1)) (.t 137)), (some (134, true))⟩,
      ⟨(some 139), (.bin .lss (.t 135) (.t 138)), (some (134, true))⟩,
      ⟨(some 140), (.pick (.t 134) (.t 139) (.k (B false))), (some (127, false))⟩,
      ⟨(some 141), (.pick (.t 127) (.k (B true)) (.t 140)), (some (124, true))⟩,
      ⟨(some 142), (.pick (.t 124) (.t 141) (.k (B false))), none⟩,
      ⟨(some 143), (.mv (.t 142)), none⟩,
      ⟨(some 144), (.call (.k (.fn (.func 19) [] [])) []), (some (143, true))⟩,
      ⟨(some 145), (.pick (.t 143) (.t 144) (.k (B false))), none⟩,
      ⟨(some 4), (.mv (.t 145)), none⟩])
    .ret)))))) ks fr H ms := rfl
/- live: [0, 1, 5, 60, 61, 62] -/
def c10L0 : ICode :=
  (.seq (.ops [⟨(some 63), (.bin .lss (.t 62) (.t 61)), none⟩])
  (.seq (.cond (.t 63)
    .skip
    (.exit 0))
  (.seq (.block 1 (.seq (.ops [⟨(some 64), (.mv (.t 62)), none⟩,
    ⟨(some 65), (.ixS 1 (.t 60) (.t 62)), none⟩,
    ⟨(some 66), (.load false 1 (.t 65)), none⟩,
    ⟨(some 11), (.mv (.t 64)), none⟩,
    ⟨(some 12), (.mv (.t 66)), none⟩])
  (.seq (.ops [⟨(some 67), (.mv (.t 0)), none⟩,
    ⟨(some 68), (.mv (.t 11)), none⟩,
    ⟨(some 69), (.mv (.t 12)), none⟩,
    ⟨(some 70), (.call (.k (.fn (.func 24) [] [])) [(.t 67), (.t 68), (.t 69)]), none⟩,
    ⟨(some 71), (.mv (.t 0)), none⟩,
    ⟨(some 72), (.mv (.t 11)), none⟩,
    ⟨(some 73), (.mv (.t 11)), none⟩,
    ⟨(some 74), (.call (.k (.fn (.func 24) [] [])) [(.t 71), (.t 72), (.t 73)]), none⟩,
    ⟨(some 75), (.bin .gtr (.t 70) (.t 74)), none⟩])
  (.cond (.t 75)
    (.seq (.ops [⟨(some 4), (.mv (.k (B false))), none⟩])
    .ret)
    .skip))))
  (.ops [⟨(some 76), (.bin .add (.t 62) (.k (I 1))), none⟩,
    ⟨(some 62), (.mv (.t 76)), none⟩]))))
theorem w10L0 {x : Cx} {Q : QT} {ks : List Kont} {fr : Fr} {H : AHeap} {ms : List Nat} : W x Q c10L0 ks fr H ms = W x Q (.seq (.ops [⟨(some 63), (.bin .lss (.t 62) (.t 61)), none⟩])
    (.seq (.cond (.t 63)
      .skip
      (.exit 0))
    (.seq (.block 1 (.seq (.ops [⟨(some 64), (.mv (.t 62)), none⟩,
      ⟨(some 65), (.ixS 1 (.t 60) (.t 62)), none⟩,
      ⟨(some 66), (.load false 1 (.t 65)), none⟩,
      ⟨(some 11), (.mv (.t 64)), none⟩,
      ⟨(some 12), (.mv (.t 66)), none⟩])
    (.seq (.ops [⟨(some 67), (.mv (.t 0)), none⟩,
      ⟨(some 68), (.mv (.t 11)), none⟩,
      ⟨(some 69), (.mv (.t 12)), none⟩,
      ⟨(some 70), (.call (.k (.fn (.func 24) [] [])) [(.t 67), (.t 68), (.t 69)]), none⟩,
      ⟨(some 71), (.mv (.t 0)), none⟩,
      ⟨(some 72), (.mv (.t 11)), none⟩,
      ⟨(some 73), (.mv (.t 11)), none⟩,
      ⟨(some 74), (.call (.k (.fn (.func 24) [] [])) [(.t 71), (.t 72), (.t 73)]), none⟩,
      ⟨(some 75), (.bin .gtr (.t 70) (.t 74)), none⟩])
    (.cond (.t 75)
      (.seq (.ops [⟨(some 4), (.mv (.k (B false))), none⟩])
      .ret)
      .skip))))
    (.ops [⟨(some 76), (.bin .add (.t 62) (.k (I 1))), none⟩,
      ⟨(some 62), (.mv (.t 76)), none⟩])))) ks fr H ms := rfl
def c10 : ICode :=
  (.seq (.ops [⟨(some 4), (.mv (.k (B false))), none⟩])
  (.seq (.ops [⟨(some 16), (.mv (.t 0)), none⟩,
    ⟨(some 17), (.call (.k (.fn (.func 16) [] [])) [(.t 16)]), none⟩,
    ⟨(some 18), (.call (.k (.fn (.func 15) [] [])) [(.t 17)]), none⟩,
    ⟨(some 15), (.mv (.t 18)), none⟩,
    ⟨(some 19), (.ext (.t 15) 0), none⟩,
    ⟨(some 20), (.ext (.t 15) 1), none⟩,
    ⟨(some 5), (.alloc [nilSl]), none⟩,
    ⟨none, (.store 1 (.t 5) (.t 19)), none⟩,
    ⟨(some 6), (.mv (.t 20)), none⟩])
  (.seq (.seq (.ops [⟨(some 21), (.mv (.t 6)), none⟩,
    ⟨(some 22), (.bin .neq (.t 21) (.k (I 0))), none⟩,
    ⟨(some 23), (.mv (.t 22)), none⟩,
    ⟨(some 24), (.mv (.t 0)), (some (23, false))⟩,
    ⟨(some 25), (.call (.k (.fn (.func 18) [] [])) [(.t 24)]), (some (23, false))⟩,
    ⟨(some 26), (.un .not (.t 25)), (some (23, false))⟩,
    ⟨(some 27), (.pick (.t 23) (.k (B true)) (.t 26)), none⟩])
  (.cond (.t 27)
    (.seq (.ops [⟨(some 28), (.mv (.t 6)), none⟩,
      ⟨(some 29), (.bin .eql (.t 28) (.k (I 2))), none⟩,
      ⟨(some 30), (.mv (.t 29)), none⟩,
      ⟨(some 31), (.call (.k (.fn (.func 19) [] [])) []), (some (30, true))⟩,
      ⟨(some 32), (.pick (.t 30) (.t 31) (.k (B false))), none⟩,
      ⟨(some 4), (.mv (.t 32)), none⟩])
    .ret)
    .skip))
  (.seq (.seq (.ops [⟨(some 33), (.load false 1 (.t 5)), none⟩,
    ⟨(some 34), (.mv (.t 0)), none⟩,
    ⟨(some 35), (.len (.t 34)), none⟩,
    ⟨(some 36), (.call (.k (.fn (.func 23) [] [])) [(.t 33), (.t 35)]), none⟩,
    ⟨(some 37), (.un .not (.t 36)), none⟩])
  (.cond (.t 37)
    (.seq (.ops [⟨(some 4), (.mv (.k (B false))), none⟩])
    .ret)
    .skip))
  (.seq (.draw 0 [] (.early 1 ⟨(some 39), (.mv (.t 0)), none⟩
    (.early 1 ⟨(some 40), (.call (.k (.fn (.func 16) [] [])) [(.t 39)]), none⟩
    (.early 1 ⟨(some 41), (.load false 1 (.t 5)), none⟩
    (.step 0 0 ⟨(some 42), (.call (.k (.fn (.func 43) [] [])) [(.t 41)]), none⟩
    (.step 0 0 ⟨(some 43), (.call (.k (.fn (.func 37) [] [])) [(.t 40), (.t 42)]), none⟩
    (.early 0 ⟨(some 38), (.mv (.t 43)), none⟩
    (.early 1 ⟨(some 44), (.ext (.t 38) 0), none⟩
    (.early 1 ⟨(some 45), (.ext (.t 38) 1), none⟩
    (.early 1 ⟨(some 7), (.mv (.t 44)), none⟩
    (.early 0 ⟨(some 8), (.mv (.t 45)), none⟩
    .done)))))))))))
  (.keep [0, 1, 5, 8] (.seq (.draw 0 [] (.early 1 ⟨(some 47), (.mv (.t 0)), none⟩
    (.early 1 ⟨(some 48), (.call (.k (.fn (.func 16) [] [])) [(.t 47)]), none⟩
    (.early 1 ⟨(some 49), (.load false 1 (.t 5)), none⟩
    (.step 0 0 ⟨(some 50), (.call (.k (.fn (.func 43) [] [])) [(.t 49)]), none⟩
    (.step 0 0 ⟨(some 51), (.call (.k (.fn (.func 38) [] [])) [(.t 48), (.t 50)]), none⟩
    (.early 0 ⟨(some 46), (.mv (.t 51)), none⟩
    (.early 1 ⟨(some 52), (.ext (.t 46) 0), none⟩
    (.early 1 ⟨(some 53), (.ext (.t 46) 1), none⟩
    (.early 1 ⟨(some 9), (.mv (.t 52)), none⟩
    (.early 0 ⟨(some 10), (.mv (.t 53)), none⟩
    .done)))))))))))
  (.keep [0, 1, 5, 8, 10] (.seq (.seq (.ops [⟨(some 54), (.mv (.t 8)), none⟩,
    ⟨(some 55), (.bin .neq (.t 54) (.k (I 4))), none⟩,
    ⟨(some 56), (.mv (.t 55)), none⟩,
    ⟨(some 57), (.mv (.t 10)), (some (56, false))⟩,
    ⟨(some 58), (.bin .neq (.t 57) (.k (I 4))), (some (56, false))⟩,
    ⟨(some 59), (.pick (.t 56) (.k (B true)) (.t 58)), none⟩])
  (.cond (.t 59)
    (.seq (.ops [⟨(some 4), (.mv (.k (B false))), none⟩])
    .ret)
    .skip))
  (.seq (.seq (.ops [⟨(some 60), (.load false 1 (.t 5)), none⟩,
    ⟨(some 61), (.len (.t 60)), none⟩,
    ⟨(some 62), (.mv (.k (I 0))), none⟩])
  (.block 0 (.loop c10L0)))
  c10T1))))))))))
theorem w10 {x : Cx} {Q : QT} {ks : List Kont} {fr : Fr} {H : AHeap} {ms : List Nat} : W x Q c10 ks fr H ms = W x Q (.seq (.ops [⟨(some 4), (.mv (.k (B false))), none⟩])
    (.seq (.ops [⟨(some 16), (.mv (.t 0)), none⟩,
      ⟨(some 17), (.call (.k (.fn (.func 16) [] [])) [(.t 16)]), none⟩,
      ⟨(some 18), (.call (.k (.fn (.func 15) [] [])) [(.t 17)]), none⟩,
      ⟨(some 15), (.mv (.t 18)), none⟩,
      ⟨(some 19), (.ext (.t 15) 0), none⟩,
      ⟨(some 20), (.ext (.t 15) 1), none⟩,
      ⟨(some 5), (.alloc [nilSl]), none⟩,
      ⟨none, (.store 1 (.t 5) (.t 19)), none⟩,
      ⟨(some 6), (.mv (.t 20)), none⟩])
    (.seq (.seq (.ops [⟨(some 21), (.mv (.t 6)), none⟩,
      ⟨(some 22), (.bin .neq (.t 21) (.k (I 0))), none⟩,
      ⟨(some 23), (.mv (.t 22)), none⟩,
      ⟨(some 24), (.mv (.t 0)), (some (23, false))⟩,
      ⟨(some 25), (.call (.k (.fn (.func 18) [] [])) [(.t 24)]), (some (23, false))⟩,
      ⟨(some 26), (.un .not (.t 25)), (some (23, false))⟩,
      ⟨(some 27), (.pick (.t 23) (.k (B true)) (.t 26)), none⟩])
    (.cond (.t 27)
      (.seq (.ops [⟨(some 28), (.mv (.t 6)), none⟩,
        ⟨(some 29), (.bin .eql (.t 28) (.k (I 2))), none⟩,
        ⟨(some 30), (.mv (.t 29)), none⟩,
        ⟨(some 31), (.call (.k (.fn (.func 19) [] [])) []), (some (30, true))⟩,
        ⟨(some 32), (.pick (.t 30) (.t 31) (.k (B false))), none⟩,
        ⟨(some 4), (.mv (.t 32)), none⟩])
      .ret)
      .skip))
    (.seq (.seq (.ops [⟨(some 33), (.load false 1 (.t 5)), none⟩,
      ⟨(some 34), (.mv (.t 0)), none⟩,
      ⟨(some 35), (.len (.t 34)), none⟩,
      ⟨(some 36), (.call (.k (.fn (.func 23) [] [])) [(.t 33), (.t 35)]), none⟩,
      ⟨(some 37), (.un .not (.t 36)), none⟩])
    (.cond (.t 37)
      (.seq (.ops [⟨(some 4), (.mv (.k (B false))), none⟩])
      .ret)
      .skip))
    (.seq (.draw 0 [] (.early 1 ⟨(some 39), (.mv (.t 0)), none⟩
      (.early 1 ⟨(some 40), (.call (.k (.fn (.func 16) [] [])) [(.t 39)]), none⟩
      (.early 1 ⟨(some 41), (.load false 1 (.t 5)), none⟩
      (.step 0 0 ⟨(some 42), (.call (.k (.fn (.func 43) [] [])) [(.t 41)]), none⟩
      (.step 0 0 ⟨(some 43), (.call (.k (.fn (.func 37) [] [])) [(.t 40), (.t 42)]), none⟩
      (.early 0 ⟨(some 38), (.mv (.t 43)), none⟩
      (.early 1 ⟨(some 44), (.ext (.t 38) 0), none⟩
      (.early 1 ⟨(some 45), (.ext (.t 38) 1), none⟩
      (.early 1 ⟨(some 7), (.mv (.t 44)), none⟩
      (.early 0 ⟨(some 8), (.mv (.t 45)), none⟩
      .done)))))))))))
    (.keep [0, 1, 5, 8] (.seq (.draw 0 [] (.early 1 ⟨(some 47), (.mv (.t 0)), none⟩
      (.early 1 ⟨(some 48), (.call (.k (.fn (.func 16) [] [])) [(.t 47)]), none⟩
      (.early 1 ⟨(some 49), (.load false 1 (.t 5)), none⟩
      (.step 0 0 ⟨(some 50), (.call (.k (.fn (.func 43) [] [])) [(.t 49)]), none⟩
      (.step 0 0 ⟨(some 51), (.call (.k (.fn (.func 38) [] [])) [(.t 48), (.t 50)]), none⟩
      (.early 0 ⟨(some 46), (.mv (.t 51)), none⟩
      (.early 1 ⟨(some 52), (.ext (.t 46) 0), none⟩
      (.early 1 ⟨(some 53), (.ext (.t 46) 1), none⟩
      (.early 1 ⟨(some 9), (.mv (.t 52)), none⟩
      (.early 0 ⟨(some 10), (.mv (.t 53)), none⟩
      .done)))))))))))
    (.keep [0, 1, 5, 8, 10] (.seq (.seq (.ops [⟨(some 54), (.mv (.t 8)), none⟩,
      ⟨(some 55), (.bin .neq (.t 54) (.k (I 4))), none⟩,
      ⟨(some 56), (.mv (.t 55)), none⟩,
      ⟨(some 57), (.mv (.t 10)), (some (56, false))⟩,
      ⟨(some 58), (.bin .neq (.t 57) (.k (I 4))), (some (56, false))⟩,
      ⟨(some 59), (.pick (.t 56) (.k (B true)) (.t 58)), none⟩])
    (.cond (.t 59)
      (.seq (.ops [⟨(some 4), (.mv (.k (B false))), none⟩])
      .ret)
      .skip))
    (.seq (.seq (.ops [⟨(some 60), (.load false 1 (.t 5)), none⟩,
      ⟨(some 61), (.len (.t 60)), none⟩,
      ⟨(some 62), (.mv (.k (I 0))), none⟩])
    (.block 0 (.loop c10L0)))
    c10T1)))))))))) ks fr H ms := rfl
def r10 : List IRes := [(.tmp 4)]
theorem t10 : Try.f10.body.bind (trCode Try.prog Try.f10.ntmps) = some (strip c10) := by kernel_rfl
theorem q10 : trRes Try.prog Try.f10.results.toList = some r10 := by kernel_rfl
theorem fn10 : Try.prog.funcs[10]? = some Try.f10 := by kernel_rfl
theorem nn10 : (Try.f10.name == "runtime.NumGoroutine") = false := by kernel_rfl
theorem nt10 : Try.f10.ntmps = 146 := by kernel_rfl
def c11T1 : ICode :=
  (.keep [] (.seq (.ops [⟨(some 168), (.call (.k (.fn (.func 19) [] [])) []), none⟩,
    ⟨(some 6), (.mv (.t 168)), none⟩])
  .ret))
theorem w11T1 {x : Cx} {Q : QT} {ks : List Kont} {fr : Fr} {H : AHeap} {ms : List Nat} : W x Q c11T1 ks fr H ms = W x Q (.keep [] (.seq (.ops [⟨(some 168), (.call (.k (.fn (.func 19) [] [])) []), none⟩,
      ⟨(some 6), (.mv (.t 168)), none⟩])
    .ret)) ks fr H ms := rfl
/- live: [0, 2, 148, 149, 150] -/
def c11L0 : ICode :=
  (.seq (.ops [⟨(some 151), (.bin .lss (.t 150) (.t 149)), none⟩])
  (.seq (.cond (.t 151)
    .skip
    (.exit 0))
  (.seq (.block 1 (.seq (.ops [⟨(some 152), (.mv (.t 150)), none⟩,
    ⟨(some 153), (.ixS 1 (.t 148) (.t 150)), none⟩,
    ⟨(some 154), (.load false 1 (.t 153)), none⟩,
    ⟨(some 22), (.mv (.t 152)), none⟩,
    ⟨(some 23), (.mv (.t 154)), none⟩])
  (.seq (.draw 0 [] (.early 1 ⟨(some 155), (.mv (.t 0)), none⟩
    (.early 1 ⟨(some 156), (.mv (.t 22)), none⟩
    (.early 1 ⟨(some 157), (.mv (.t 23)), none⟩
    (.early 1 ⟨(some 158), (.call (.k (.fn (.func 24) [] [])) [(.t 155), (.t 156), (.t 157)]), none⟩
    (.early 1 ⟨(some 159), (.mv (.t 0)), none⟩
    (.early 1 ⟨(some 160), (.mv (.t 22)), none⟩
    (.early 1 ⟨(some 161), (.mv (.t 2)), none⟩
    (.early 1 ⟨(some 162), (.mv (.t 22)), none⟩
    (.early 1 ⟨(some 163), (.ixS 1 (.t 161) (.t 162)), none⟩
    (.early 1 ⟨(some 164), (.load false 1 (.t 163)), none⟩
    (.step 0 0 ⟨(some 165), (.call (.k (.fn (.func 24) [] [])) [(.t 159), (.t 160), (.t 164)]), none⟩
    (.early 0 ⟨(some 166), (.bin .gtr (.t 158) (.t 165)), none⟩
    .done)))))))))))))
  (.keep [0, 2, 148, 149, 150, 166] (.cond (.t 166)
    (.seq (.ops [⟨(some 6), (.mv (.k (B false))), none⟩])
    .ret)
    .skip)))))
  (.ops [⟨(some 167), (.bin .add (.t 150) (.k (I 1))), none⟩,
    ⟨(some 150), (.mv (.t 167)), none⟩]))))
theorem w11L0 {x : Cx} {Q : QT} {ks : List Kont} {fr : Fr} {H : AHeap} {ms : List Nat} : W x Q c11L0 ks fr H ms = W x Q (.seq (.ops [⟨(some 151), (.bin .lss (.t 150) (.t 149)), none⟩])
    (.seq (.cond (.t 151)
      .skip
      (.exit 0))
    (.seq (.block 1 (.seq (.ops [⟨(some 152), (.mv (.t 150)), none⟩,
      ⟨(some 153), (.ixS 1 (.t 148) (.t 150)), none⟩,
      ⟨(some 154), (.load false 1 (.t 153)), none⟩,
      ⟨(some 22), (.mv (.t 152)), none⟩,
      ⟨(some 23), (.mv (.t 154)), none⟩])
    (.seq (.draw 0 [] (.early 1 ⟨(some 155), (.mv (.t 0)), none⟩
      (.early 1 ⟨(some 156), (.mv (.t 22)), none⟩
      (.early 1 ⟨(some 157), (.mv (.t 23)), none⟩
      (.early 1 ⟨(some 158), (.call (.k (.fn (.func 24) [] [])) [(.t 155), (.t 156), (.t 157)]), none⟩
      (.early 1 ⟨(some 159), (.mv (.t 0)), none⟩
      (.early 1 ⟨(some 160), (.mv (.t 22)), none⟩
      (.early 1 ⟨(some 161), (.mv (.t 2)), none⟩
      (.early 1 ⟨(some 162), (.mv (.t 22)), none⟩
      (.early 1 ⟨(some 163), (.ixS 1 (.t 161) (.t 162)), none⟩
      (.early 1 ⟨(some 164), (.load false 1 (.t 163)), none⟩
      (.step 0 0 ⟨(some 165), (.call (.k (.fn (.func 24) [] [])) [(.t 159), (.t 160), (.t 164)]), none⟩
      (.early 0 ⟨(some 166), (.bin .gtr (.t 158) (.t 165)), none⟩
      .done)))))))))))))
    (.keep [0, 2, 148, 149, 150, 166] (.cond (.t 166)
      (.seq (.ops [⟨(some 6), (.mv (.k (B false))), none⟩])
      .ret)
      .skip)))))
    (.ops [⟨(some 167), (.bin .add (.t 150) (.k (I 1))), none⟩,
      ⟨(some 150), (.mv (.t 167)), none⟩])))) ks fr H ms := rfl
def c11 : ICode :=
  (.seq (.ops [⟨(some 6), (.mv (.k (B false))), none⟩])
  (.seq (.ops [⟨(some 25), (.mv (.t 0)), none⟩,
    ⟨(some 26), (.call (.k (.fn (.func 16) [] [])) [(.t 25)]), none⟩,
    ⟨(some 27), (.call (.k (.fn (.func 15) [] [])) [(.t 26)]), none⟩,
    ⟨(some 24), (.mv (.t 27)), none⟩,
    ⟨(some 28), (.ext (.t 24) 0), none⟩,
    ⟨(some 29), (.ext (.t 24) 1), none⟩,
    ⟨(some 7), (.mv (.t 28)), none⟩,
    ⟨(some 8), (.mv (.t 29)), none⟩])
  (.seq (.seq (.ops [⟨(some 30), (.mv (.t 8)), none⟩,
    ⟨(some 31), (.bin .neq (.t 30) (.k (I 0))), none⟩,
    ⟨(some 32), (.mv (.t 31)), none⟩,
    ⟨(some 33), (.mv (.t 0)), (some (32, false))⟩,
    ⟨(some 34), (.call (.k (.fn (.func 18) [] [])) [(.t 33)]), (some (32, false))⟩,
    ⟨(some 35), (.un .not (.t 34)), (some (32, false))⟩,
    ⟨(some 36), (.pick (.t 32) (.k (B true)) (.t 35)), none⟩])
  (.cond (.t 36)
    (.seq (.ops [⟨(some 37), (.mv (.t 8)), none⟩,
      ⟨(some 38), (.bin .eql (.t 37) (.k (I 2))), none⟩,
      ⟨(some 39), (.mv (.t 38)), none⟩,
      ⟨(some 40), (.call (.k (.fn (.func 19) [] [])) []), (some (39, true))⟩,
      ⟨(some 41), (.pick (.t 39) (.t 40) (.k (B false))), none⟩,
      ⟨(some 6), (.mv (.t 41)), none⟩])
    .ret)
    .skip))
  (.seq (.seq (.ops [⟨(some 43), (.mv (.t 0)), none⟩,
    ⟨(some 44), (.call (.k (.fn (.func 16) [] [])) [(.t 43)]), none⟩,
    ⟨(some 45), (.mv (.t 7)), none⟩,
    ⟨(some 46), (.call (.k (.fn (.func 39) [] [])) [(.t 44), (.t 45)]), none⟩,
    ⟨(some 42), (.mv (.t 46)), none⟩,
    ⟨(some 47), (.ext (.t 42) 0), none⟩,
    ⟨(some 48), (.ext (.t 42) 1), none⟩,
    ⟨(some 9), (.mv (.t 47)), none⟩,
    ⟨(some 10), (.mv (.t 48)), none⟩])
  (.seq (.ops [⟨(some 49), (.mv (.t 10)), none⟩,
    ⟨(some 50), (.bin .neq (.t 49) (.k (I 4))), none⟩])
  (.cond (.t 50)
    (.seq (.ops [⟨(some 6), (.mv (.k (B false))), none⟩])
    .ret)
    .skip)))
  (.seq (.seq (.ops [⟨(some 51), (.mv (.t 1)), none⟩,
    ⟨(some 52), (.mv (.t 0)), none⟩,
    ⟨(some 53), (.len (.t 52)), none⟩,
    ⟨(some 54), (.call (.k (.fn (.func 23) [] [])) [(.t 51), (.t 53)]), none⟩])
  (.cond (.t 54)
    (.seq (.ops [⟨(some 56), (.mv (.t 0)), none⟩,
      ⟨(some 57), (.call (.k (.fn (.func 16) [] [])) [(.t 56)]), none⟩,
      ⟨(some 58), (.mv (.t 1)), none⟩,
      ⟨(some 59), (.call (.k (.fn (.func 27) [] [])) [(.t 58)]), none⟩,
      ⟨(some 60), (.call (.k (.fn (.func 30) [] [])) [(.t 57), (.t 59)]), none⟩,
      ⟨(some 55), (.mv (.t 60)), none⟩,
      ⟨(some 61), (.ext (.t 55) 0), none⟩,
      ⟨(some 62), (.ext (.t 55) 1), none⟩,
      ⟨(some 11), (.mv (.t 61)), none⟩,
      ⟨(some 12), (.mv (.t 62)), none⟩])
    (.seq (.seq (.ops [⟨(some 63), (.mv (.t 12)), none⟩,
      ⟨(some 64), (.bin .neq (.t 63) (.k (I 0))), none⟩])
    (.cond (.t 64)
      (.seq (.ops [⟨(some 6), (.mv (.k (B false))), none⟩])
      .ret)
      .skip))
    (.seq (.ops [⟨(some 66), (.mv (.t 0)), none⟩,
      ⟨(some 67), (.call (.k (.fn (.func 16) [] [])) [(.t 66)]), none⟩,
      ⟨(some 68), (.mv (.t 11)), none⟩,
      ⟨(some 69), (.call (.k (.fn (.func 43) [] [])) [(.t 68)]), none⟩,
      ⟨(some 70), (.call (.k (.fn (.func 39) [] [])) [(.t 67), (.t 69)]), none⟩,
      ⟨(some 65), (.mv (.t 70)), none⟩,
      ⟨(some 71), (.ext (.t 65) 0), none⟩,
      ⟨(some 72), (.ext (.t 65) 1), none⟩,
      ⟨(some 13), (.mv (.t 71)), none⟩,
      ⟨(some 14), (.mv (.t 72)), none⟩])
    (.seq (.ops [⟨(some 74), (.mv (.t 0)), none⟩,
      ⟨(some 75), (.call (.k (.fn (.func 16) [] [])) [(.t 74)]), none⟩,
      ⟨(some 76), (.mv (.t 11)), none⟩,
      ⟨(some 77), (.call (.k (.fn (.func 43) [] [])) [(.t 76)]), none⟩,
      ⟨(some 78), (.call (.k (.fn (.func 31) [] [])) [(.t 75), (.t 77)]), none⟩,
      ⟨(some 73), (.mv (.t 78)), none⟩,
      ⟨(some 79), (.ext (.t 73) 0), none⟩,
      ⟨(some 80), (.ext (.t 73) 1), none⟩,
      ⟨(some 15), (.mv (.t 79)), none⟩,
      ⟨(some 16), (.mv (.t 80)), none⟩])
    (.seq (.seq (.ops [⟨(some 81), (.mv (.t 14)), none⟩,
      ⟨(some 82), (.bin .neq (.t 81) (.k (I 4))), none⟩,
      ⟨(some 83), (.mv (.t 82)), none⟩,
      ⟨(some 84), (.mv (.t 16)), (some (83, false))⟩,
      ⟨(some 85), (.bin .neq (.t 84) (.k (I 0))), (some (83, false))⟩,
      ⟨(some 86), (.pick (.t 83) (.k (B true)) (.t 85)), none⟩,
      ⟨(some 87), (.mv (.t 86)), none⟩,
      ⟨(some 88), (.mv (.t 15)), (some (87, false))⟩,
      ⟨(some 89), (.mv (.t 1)), (some (87, false))⟩,
      ⟨(some 90), (.call (.k (.fn (.func 45) [] [])) [(.t 88), (.t 89)]), (some (87, false))⟩,
      ⟨(some 91), (.bin .gtr (.t 90) (.k (I 0))), (some (87, false))⟩,
      ⟨(some 92), (.pick (.t 87) (.k (B true)) (.t 91)), none⟩])
    (.cond (.t 92)
      (.seq (.ops [⟨(some 6), (.mv (.k (B false))), none⟩])
      .ret)
      .skip))
    (.seq (.ops [⟨(some 94), (.mv (.t 0)), none⟩,
      ⟨(some 95), (.call (.k (.fn (.func 16) [] [])) [(.t 94)]), none⟩,
      ⟨(some 96), (.mv (.t 15)), none⟩,
      ⟨(some 97), (.call (.k (.fn (.func 30) [] [])) [(.t 95), (.t 96)]), none⟩,
      ⟨(some 93), (.mv (.t 97)), none⟩,
      ⟨(some 98), (.ext (.t 93) 0), none⟩,
      ⟨(some 99), (.ext (.t 93) 1), none⟩,
      ⟨(some 17), (.mv (.t 98)), none⟩,
      ⟨(some 12), (.mv (.t 99)), none⟩])
    (.seq (.ops [⟨(some 100), (.mv (.t 12)), none⟩,
      ⟨(some 101), (.bin .neq (.t 100) (.k (I 0))), none⟩,
      ⟨(some 102), (.mv (.t 101)), none⟩,
      ⟨(some 103), (.mv (.t 17)), (some (102, false))⟩,
      ⟨(some 104), (.mv (.t 11)), (some (102, false))⟩,
      ⟨(some 105), (.call (.k (.fn (.func 20) [] [])) [(.t 103), (.t 104)]), (some (102, false))⟩,
      ⟨(some 106), (.un .not (.t 105)), (some (102, false))⟩,
      ⟨(some 107), (.pick (.t 102) (.k (B true)) (.t 106)), none⟩])
    (.cond (.t 107)
      (.seq (.ops [⟨(some 6), (.mv (.k (B false))), none⟩])
      .ret)
      .skip))))))))
    .skip))
  (.seq (.seq (.ops [⟨(some 108), (.mv (.t 2)), none⟩,
    ⟨(some 109), (.mv (.t 0)), none⟩,
    ⟨(some 110), (.len (.t 109)), none⟩,
    ⟨(some 111), (.call (.k (.fn (.func 23) [] [])) [(.t 108), (.t 110)]), none⟩,
    ⟨(some 112), (.un .not (.t 111)), none⟩])
  (.cond (.t 112)
    (.seq (.ops [⟨(some 113), (.call (.k (.fn (.func 19) [] [])) []), none⟩,
      ⟨(some 6), (.mv (.t 113)), none⟩])
    .ret)
    .skip))
  (.seq (.ops [⟨(some 115), (.mv (.t 0)), none⟩,
    ⟨(some 116), (.call (.k (.fn (.func 16) [] [])) [(.t 115)]), none⟩,
    ⟨(some 117), (.mv (.t 2)), none⟩,
    ⟨(some 118), (.call (.k (.fn (.func 27) [] [])) [(.t 117)]), none⟩,
    ⟨(some 119), (.call (.k (.fn (.func 31) [] [])) [(.t 116), (.t 118)]), none⟩,
    ⟨(some 114), (.mv (.t 119)), none⟩,
    ⟨(some 120), (.ext (.t 114) 0), none⟩,
    ⟨(some 121), (.ext (.t 114) 1), none⟩,
    ⟨(some 18), (.mv (.t 120)), none⟩,
    ⟨(some 19), (.mv (.t 121)), none⟩])
  (.seq (.ops [⟨(some 123), (.mv (.t 0)), none⟩,
    ⟨(some 124), (.call (.k (.fn (.func 16) [] [])) [(.t 123)]), none⟩,
    ⟨(some 125), (.mv (.t 2)), none⟩,
    ⟨(some 126), (.call (.k (.fn (.func 27) [] [])) [(.t 125)]), none⟩,
    ⟨(some 127), (.call (.k (.fn (.func 39) [] [])) [(.t 124), (.t 126)]), none⟩,
    ⟨(some 122), (.mv (.t 127)), none⟩,
    ⟨(some 128), (.ext (.t 122) 0), none⟩,
    ⟨(some 129), (.ext (.t 122) 1), none⟩,
    ⟨(some 20), (.mv (.t 128)), none⟩,
    ⟨(some 21), (.mv (.t 129)), none⟩])
  (.seq (.seq (.ops [⟨(some 130), (.mv (.t 19)), none⟩,
    ⟨(some 131), (.bin .eql (.t 130) (.k (I 0))), none⟩,
    ⟨(some 132), (.mv (.t 21)), none⟩,
    ⟨(some 133), (.bin .eql (.t 132) (.k (I 4))), none⟩,
    ⟨(some 134), (.eqb true (.t 131) (.t 133)), none⟩])
  (.cond (.t 134)
    (.seq (.ops [⟨(some 6), (.mv (.k (B false))), none⟩])
    .ret)
    .skip))
  (.seq (.seq (.ops [⟨(some 135), (.mv (.t 21)), none⟩,
    ⟨(some 136), (.bin .neq (.t 135) (.k (I 0))), none⟩])
  (.cond (.t 136)
    (.seq (.ops [⟨(some 137), (.call (.k (.fn (.func 19) [] [])) []), none⟩,
      ⟨(some 6), (.mv (.t 137)), none⟩])
    .ret)
    .skip))
  (.seq (.seq (.ops [⟨(some 138), (.mv (.t 20)), none⟩,
    ⟨(some 139), (.mv (.t 0)), none⟩,
    ⟨(some 140), (.len (.t 139)), none⟩,
    ⟨(some 141), (.call (.k (.fn (.func 23) [] [])) [(.t 138), (.t 140)]), none⟩,
    ⟨(some 142), (.un .not (.t 141)), none⟩,
    ⟨(some 143), (.mv (.t 142)), none⟩,
    ⟨(some 144), (.mv (.t 20)), (some (143, false))⟩,
    ⟨(some 145), (.mv (.t 2)), (some (143, false))⟩,
    ⟨(some 146), (.call (.k (.fn (.func 20) [] [])) [(.t 144), (.t 145)]), (some (143, false))⟩,
    ⟨(some 147), (.pick (.t 143) (.k (B true)) (.t 146)), none⟩])
  (.cond (.t 147)
    (.seq (.ops [⟨(some 6), (.mv (.k (B false))), none⟩])
    .ret)
    .skip))
  (.seq (.seq (.ops [⟨(some 148), (.mv (.t 20)), none⟩,
    ⟨(some 149), (.len (.t 148)), none⟩,
    ⟨(some 150), (.mv (.k (I 0))), none⟩])
  (.block 0 (.loop c11L0)))
  c11T1))))))))))))
theorem w11 {x : Cx} {Q : QT} {ks : List Kont} {fr : Fr} {H : AHeap} {ms : List Nat} : W x Q c11 ks fr H ms = W x Q (.seq (.ops [⟨(some 6), (.mv (.k (B false))), none⟩])
    (.seq (.ops [⟨(some 25), (.mv (.t 0)), none⟩,
      ⟨(some 26), (.call (.k (.fn (.func 16) [] [])) [(.t 25)]), none⟩,
      ⟨(some 27), (.call (.k (.fn (.func 15) [] [])) [(.t 26)]), none⟩,
      ⟨(some 24), (.mv (.t 27)), none⟩,
      ⟨(some 28), (.ext (.t 24) 0), none⟩,
      ⟨(some 29), (.ext (.t 24) 1), none⟩,
      ⟨(some 7), (.mv (.t 28)), none⟩,
      ⟨(some 8), (.mv (.t 29)), none⟩])
    (.seq (.seq (.ops [⟨(some 30), (.mv (.t 8)), none⟩,
      ⟨(some 31), (.bin .neq (.t 30) (.k (I 0))), none⟩,
      ⟨(some 32), (.mv (.t 31)), none⟩,
      ⟨(some 33), (.mv (.t 0)), (some (32, false))⟩,
      ⟨(some 34), (.call (.k (.fn (.func 18) [] [])) [(.t 33)]), (some (32, false))⟩,
      ⟨(some 35), (.un .not (.t 34)), (some (32, false))⟩,
      ⟨(some 36), (.pick (.t 32) (.k (B true)) (.t 35)), none⟩])
    (.cond (.t 36)
      (.seq (.ops [⟨(some 37), (.mv (.t 8)), none⟩,
        ⟨(some 38), (.bin .eql (.t 37) (.k (I 2))), none⟩,
        ⟨(some 39), (.mv (.t 38)), none⟩,
        ⟨(some 40), (.call (.k (.fn (.func 19) [] [])) []), (some (39, true))⟩,
        ⟨(some 41), (.pick (.t 39) (.t 40) (.k (B false))), none⟩,
        ⟨(some 6), (.mv (.t 41)), none⟩])
      .ret)
      .skip))
    (.seq (.seq (.ops [⟨(some 43), (.mv (.t 0)), none⟩,
      ⟨(some 44), (.call (.k (.fn (.func 16) [] [])) [(.t 43)]), none⟩,
      ⟨(some 45), (.mv (.t 7)), none⟩,
      ⟨(some 46), (.call (.k (.fn (.func 39) [] [])) [(.t 44), (.t 45)]), none⟩,
      ⟨(some 42), (.mv (.t 46)), none⟩,
      ⟨(some 47), (.ext (.t 42) 0), none⟩,
      ⟨(some 48), (.ext (.t 42) 1), none⟩,
      ⟨(some 9), (.mv (.t 47)), none⟩,
      ⟨(some 10), (.mv (.t 48)), none⟩])
    (.seq (.ops [⟨(some 49), (.mv (.t 10)), none⟩,
      ⟨(some 50), (.bin .neq (.t 49) (.k (I 4))), none⟩])
    (.cond (.t 50)
      (.seq (.ops [⟨(some 6), (.mv (.k (B false))), none⟩])
      .ret)
      .skip)))
    (.seq (.seq (.ops [⟨(some 51), (.mv (.t 1)), none⟩,
      ⟨(some 52), (.mv (.t 0)), none⟩,
      ⟨(some 53), (.len (.t 52)), none⟩,
      ⟨(some 54), (.call (.k (.fn (.func 23) [] [])) [(.t 51), (.t 53)]), none⟩])
    (.cond (.t 54)
      (.seq (.ops [⟨(some 56), (.mv (.t 0)), none⟩,
        ⟨(some 57), (.call (.k (.fn (.func 16) [] [])) [(.t 56)]), none⟩,
        ⟨(some 58), (.mv (.t 1)), none⟩,
        ⟨(some 59), (.call (.k (.fn (.func 27) [] [])) [(.t 58)]), none⟩,
        ⟨(some 60), (.call (.k (.fn (.func 30) [] [])) [(.t 57), (.t 59)]), none⟩,
        ⟨(some 55), (.mv (.t 60)), none⟩,
        ⟨(some 61), (.ext (.t 55) 0), none⟩,
        ⟨(some 62), (.ext (.t 55) 1), none⟩,
        ⟨(some 11), (.mv (.t 61)), none⟩,
        ⟨(some 12), (.mv (.t 62)), none⟩])
      (.seq (.seq (.ops [⟨(some 63), (.mv (.t 12)), none⟩,
        ⟨(some 64), (.bin .neq (.t 63) (.k (I 0))), none⟩])
      (.cond (.t 64)
        (.seq (.ops [⟨(some 6), (.mv (.k (B false))), none⟩])
        .ret)
        .skip))
      (.seq (.ops [⟨(some 66), (.mv (.t 0)), none⟩,
        ⟨(some 67), (.call (.k (.fn (.func 16) [] [])) [(.t 66)]), none⟩,
        ⟨(some 68), (.mv (.t 11)), none⟩,
        ⟨(some 69), (.call (.k (.fn (.func 43) [] [])) [(.t 68)]), none⟩,
        ⟨(some 70), (.call (.k (.fn (.func 39) [] [])) [(.t 67), (.t 69)]), none⟩,
        ⟨(some 65), (.mv (.t 70)), none⟩,
        ⟨(some 71), (.ext (.t 65) 0), none⟩,
        ⟨(some 72), (.ext (.t 65) 1), none⟩,
        ⟨(some 13), (.mv (.t 71)), none⟩,
        ⟨(some 14), (.mv (.t 72)), none⟩])
      (.seq (.ops [⟨(some 74), (.mv (.t 0)), none⟩,
        ⟨(some 75), (.call (.k (.fn (.func 16) [] [])) [(.t 74)]), none⟩,
        ⟨(some 76), (.mv (.t 11)), none⟩,
        ⟨(some 77), (.call (.k (.fn (.func 43) [] [])) [(.t 76)]), none⟩,
        ⟨(some 78), (.call (.k (.fn (.func 31) [] [])) [(.t 75), (.t 77)]), none⟩,
        ⟨(some 73), (.mv (.t 78)), none⟩,
        ⟨(some 79), (.ext (.t 73) 0), none⟩,
        ⟨(some 80), (.ext (.t 73) 1), none⟩,
        ⟨(some 15), (.mv (.t 79)), none⟩,
        ⟨(some 16), (.mv (.t 80)), none⟩])
      (.seq (.seq (.ops [⟨(some 81), (.mv (.t 14)), none⟩,
        ⟨(some 82), (.bin .neq (.t 81) (.k (I 4))), none⟩,
        ⟨(some 83), (.mv (.t 82)), none⟩,
        ⟨(some 84), (.mv (.t 16)), (some (83, false))⟩,
        ⟨(some 85), (.bin .neq (.t 84) (.k (I 0))), (some (83, false))⟩,
        ⟨(some 86), (.pick (.t 83) (.k (B true)) (.t 85)), none⟩,
        ⟨(some 87), (.mv (.t 86)), none⟩,
        ⟨(some 88), (.mv (.t 15)), (some (87, false))⟩,
        ⟨(some 89), (.mv (.t 1)), (some (87, false))⟩,
        ⟨(some 90), (.call (.k (.fn (.func 45) [] [])) [(.t 88), (.t 89)]), (some (87, false))⟩,
        ⟨(some 91), (.bin .gtr (.t 90) (.k (I 0))), (some (87, false))⟩,
        ⟨(some 92), (.pick (.t 87) (.k (B true)) (.t 91)), none⟩])
      (.cond (.t 92)
        (.seq (.ops [⟨(some 6), (.mv (.k (B false))), none⟩])
        .ret)
        .skip))
      (.seq (.ops [⟨(some 94), (.mv (.t 0)), none⟩,
        ⟨(some 95), (.call (.k (.fn (.func 16) [] [])) [(.t 94)]), none⟩,
        ⟨(some 96), (.mv (.t 15)), none⟩,
        ⟨(some 97), (.call (.k (.fn (.func 30) [] [])) [(.t 95), (.t 96)]), none⟩,
        ⟨(some 93), (.mv (.t 97)), none⟩,
        ⟨(some 98), (.ext (.t 93) 0), none⟩,
        ⟨(some 99), (.ext (.t 93) 1), none⟩,
        ⟨(some 17), (.mv (.t 98)), none⟩,
        ⟨(some 12), (.mv (.t 99)), none⟩])
      (.seq (.ops [⟨(some 100), (.mv (.t 12)), none⟩,
        ⟨(some 101), (.bin .neq (.t 100) (.k (I 0))), none⟩,
        ⟨(some 102), (.mv (.t 101)), none⟩,
        ⟨(some 103), (.mv (.t 17)), (some (102, false))⟩,
        ⟨(some 104), (.mv (.t 11)), (some (102, false))⟩,
        ⟨(some 105), (.call (.k (.fn (.func 20) [] [])) [(.t 103), (.t 104)]), (some (102, false))⟩,
        ⟨(some 106), (.un .not (.t 105)), (some (102, false))⟩,
        ⟨(some 107), (.pick (.t 102) (.k (B true)) (.t 106)), none⟩])
      (.cond (.t 107)
        (.seq (.ops [⟨(some 6), (.mv (.k (B false))), none⟩])
        .ret)
        .skip))))))))
      .skip))
    (.seq (.seq (.ops [⟨(some 108), (.mv (.t 2)), none⟩,
      ⟨(some 109), (.mv (.t 0)), none⟩,
      ⟨(some 110), (.len (.t 109)), none⟩,
      ⟨(some 111), (.call (.k (.fn (.func 23) [] [])) [(.t 108), (.t 110)]), none⟩,
      ⟨(some 112), (.un .not (.t 111)), none⟩])
    (.cond (.t 112)
      (.seq (.ops [⟨(some 113), (.call (.k (.fn (.func 19) [] [])) []), none⟩,
        ⟨(some 6), (.mv (.t 113)), none⟩])
      .ret)
      .skip))
    (.seq (.ops [⟨(some 115), (.mv (.t 0)), none⟩,
      ⟨(some 116), (.call (.k (.fn (.func 16) [] [])) [(.t 115)]), none⟩,
      ⟨(some 117), (.mv (.t 2)), none⟩,
      ⟨(some 118), (.call (.k (.fn (.func 27) [] [])) [(.t 117)]), none⟩,
      ⟨(some 119), (.call (.k (.fn (.func 31) [] [])) [(.t 116), (.t 118)]), none⟩,
      ⟨(some 114), (.mv (.t 119)), none⟩,
      ⟨(some 120), (.ext (.t 114) 0), none⟩,
      ⟨(some 121), (.ext (.t 114) 1), none⟩,
      ⟨(some 18), (.mv (.t 120)), none⟩,
      ⟨(some 19), (.mv (.t 121)), none⟩])
    (.seq (.ops [⟨(some 123), (.mv (.t 0)), none⟩,
      ⟨(some 124), (.call (.k (.fn (.func 16) [] [])) [(.t 123)]), none⟩,
      ⟨(some 125), (.mv (.t 2)), none⟩,
      ⟨(some 126), (.call (.k (.fn (.func 27) [] [])) [(.t 125)]), none⟩,
      ⟨(some 127), (.call (.k (.fn (.func 39) [] [])) [(.t 124), (.t 126)]), none⟩,
      ⟨(some 122), (.mv (.t 127)), none⟩,
      ⟨(some 128), (.ext (.t 122) 0), none⟩,
      ⟨(some 129), (.ext (.t 122) 1), none⟩,
      ⟨(some 20), (.mv (.t 128)), none⟩,
      ⟨(some 21), (.mv (.t 129)), none⟩])
    (.seq (.seq (.ops [⟨(some 130), (.mv (.t 19)), none⟩,
      ⟨(some 131), (.bin .eql (.t 130) (.k (I 0))), none⟩,
      ⟨(some 132), (.mv (.t 21)), none⟩,
      ⟨(some 133), (.bin .eql (.t 132) (.k (I 4))), none⟩,
      ⟨(some 134), (.eqb true (.t 131) (.t 133)), none⟩])
    (.cond (.t 134)
      (.seq (.ops [⟨(some 6), (.mv (.k (B false))), none⟩])
      .ret)
      .skip))
    (.seq (.seq (.ops [⟨(some 135), (.mv (.t 21)), none⟩,
      ⟨(some 136), (.bin .neq (.t 135) (.k (I 0))), none⟩])
    (.cond (.t 136)
      (.seq (.ops [⟨(some 137), (.call (.k (.fn (.func 19) [] [])) []), none⟩,
        ⟨(some 6), (.mv (.t 137)), none⟩])
      .ret)
      .skip))
    (.seq (.seq (.ops [⟨(some 138), (.mv (.t 20)), none⟩,
      ⟨(some 139), (.mv (.t 0)), none⟩,
      ⟨(some 140), (.len (.t 139)), none⟩,
      ⟨(some 141), (.call (.k (.fn (.func 23) [] [])) [(.t 138), (.t 140)]), none⟩,
      ⟨(some 142), (.un .not (.t 141)), none⟩,
      ⟨(some 143), (.mv (.t 142)), none⟩,
      ⟨(some 144), (.mv (.t 20)), (some (143, false))⟩,
      ⟨(some 145), (.mv (.t 2)), (some (143, false))⟩,
      ⟨(some 146), (.call (.k (.fn (.func 20) [] [])) [(.t 144), (.t 145)]), (some (143, false))⟩,
      ⟨(some 147), (.pick (.t 143) (.k (B true)) (.t 146)), none⟩])
    (.cond (.t 147)
      (.seq (.ops [⟨(some 6), (.mv (.k (B false))), none⟩])
      .ret)
      .skip))
    (.seq (.seq (.ops [⟨(some 148), (.mv (.t 20)), none⟩,
      ⟨(some 149), (.len (.t 148)), none⟩,
      ⟨(some 150), (.mv (.k (I 0))), none⟩])
    (.block 0 (.loop c11L0)))
    c11T1)))))))))))) ks fr H ms := rfl
def r11 : List IRes := [(.tmp 6)]
theorem t11 : Try.f11.body.bind (trCode Try.prog Try.f11.ntmps) = some (strip c11) := by kernel_rfl
theorem q11 : trRes Try.prog Try.f11.results.toList = some r11 := by kernel_rfl
theorem fn11 : Try.prog.funcs[11]? = some Try.f11 := by kernel_rfl
theorem nn11 : (Try.f11.name == "runtime.NumGoroutine") = false := by kernel_rfl
theorem nt11 : Try.f11.ntmps = 169 := by kernel_rfl
def c35 : ICode :=
  (.seq (.ops [⟨(some 4), (.mv (.k (B false))), none⟩])
  (.seq (.ops [⟨(some 5), (.mv (.t 0)), none⟩,
    ⟨(some 6), (.mv (.t 1)), none⟩,
    ⟨(some 7), (.call (.k (.fn (.func 65) [] [])) [(.t 5), (.t 6)]), none⟩,
    ⟨(some 8), (.bin .geq (.t 7) (.k (I 0))), none⟩,
    ⟨(some 4), (.mv (.t 8)), none⟩])
  .ret))
theorem w35 {x : Cx} {Q : QT} {ks : List Kont} {fr : Fr} {H : AHeap} {ms : List Nat} : W x Q c35 ks fr H ms = W x Q (.seq (.ops [⟨(some 4), (.mv (.k (B false))), none⟩])
    (.seq (.ops [⟨(some 5), (.mv (.t 0)), none⟩,
      ⟨(some 6), (.mv (.t 1)), none⟩,
      ⟨(some 7), (.call (.k (.fn (.func 65) [] [])) [(.t 5), (.t 6)]), none⟩,
      ⟨(some 8), (.bin .geq (.t 7) (.k (I 0))), none⟩,
      ⟨(some 4), (.mv (.t 8)), none⟩])
    .ret)) ks fr H ms := rfl
def r35 : List IRes := [(.tmp 4)]
theorem t35 : Try.f35.body.bind (trCode Try.prog Try.f35.ntmps) = some (strip c35) := by kernel_rfl
theorem q35 : trRes Try.prog Try.f35.results.toList = some r35 := by kernel_rfl
theorem fn35 : Try.prog.funcs[35]? = some Try.f35 := by kernel_rfl
theorem nn35 : (Try.f35.name == "runtime.NumGoroutine") = false := by kernel_rfl
theorem nt35 : Try.f35.ntmps = 9 := by kernel_rfl
def c36 : ICode :=
  (.seq (.ops [⟨(some 3), (.mv (.k (B false))), none⟩])
  (.seq (.ops [⟨(some 4), (.load false 1 (.t 1)), none⟩,
    ⟨(some 5), (.mv (.t 0)), none⟩,
    ⟨(some 6), (.call (.k (.fn (.func 20) [] [])) [(.t 4), (.t 5)]), none⟩,
    ⟨(some 3), (.mv (.t 6)), none⟩])
  .ret))
theorem w36 {x : Cx} {Q : QT} {ks : List Kont} {fr : Fr} {H : AHeap} {ms : List Nat} : W x Q c36 ks fr H ms = W x Q (.seq (.ops [⟨(some 3), (.mv (.k (B false))), none⟩])
    (.seq (.ops [⟨(some 4), (.load false 1 (.t 1)), none⟩,
      ⟨(some 5), (.mv (.t 0)), none⟩,
      ⟨(some 6), (.call (.k (.fn (.func 20) [] [])) [(.t 4), (.t 5)]), none⟩,
      ⟨(some 3), (.mv (.t 6)), none⟩])
    .ret)) ks fr H ms := rfl
def r36 : List IRes := [(.tmp 3)]
theorem t36 : Try.f36.body.bind (trCode Try.prog Try.f36.ntmps) = some (strip c36) := by kernel_rfl
theorem q36 : trRes Try.prog Try.f36.results.toList = some r36 := by kernel_rfl
theorem fn36 : Try.prog.funcs[36]? = some Try.f36 := by kernel_rfl
theorem nn36 : (Try.f36.name == "runtime.NumGoroutine") = false := by kernel_rfl
theorem nt36 : Try.f36.ntmps = 7 := by kernel_rfl
def c44 : ICode :=
  (.seq (.ops [⟨(some 3), (.mv (.k (B false))), none⟩])
  (.seq (.ops [⟨(some 4), (.mv (.t 0)), none⟩,
    ⟨(some 5), (.load false 1 (.t 1)), none⟩,
    ⟨(some 6), (.call (.k (.fn (.func 20) [] [])) [(.t 4), (.t 5)]), none⟩,
    ⟨(some 3), (.mv (.t 6)), none⟩])
  .ret))
theorem w44 {x : Cx} {Q : QT} {ks : List Kont} {fr : Fr} {H : AHeap} {ms : List Nat} : W x Q c44 ks fr H ms = W x Q (.seq (.ops [⟨(some 3), (.mv (.k (B false))), none⟩])
    (.seq (.ops [⟨(some 4), (.mv (.t 0)), none⟩,
      ⟨(some 5), (.load false 1 (.t 1)), none⟩,
      ⟨(some 6), (.call (.k (.fn (.func 20) [] [])) [(.t 4), (.t 5)]), none⟩,
      ⟨(some 3), (.mv (.t 6)), none⟩])
    .ret)) ks fr H ms := rfl
def r44 : List IRes := [(.tmp 3)]
theorem t44 : Try.f44.body.bind (trCode Try.prog Try.f44.ntmps) = some (strip c44) := by kernel_rfl
theorem q44 : trRes Try.prog Try.f44.results.toList = some r44 := by kernel_rfl
theorem fn44 : Try.prog.funcs[44]? = some Try.f44 := by kernel_rfl
theorem nn44 : (Try.f44.name == "runtime.NumGoroutine") = false := by kernel_rfl
theorem nt44 : Try.f44.ntmps = 7 := by kernel_rfl
def c45T1 : ICode :=
  (.keep [0, 1] (.seq (.seq (.ops [⟨(some 31), (.mv (.t 0)), none⟩,
    ⟨(some 32), (.len (.t 31)), none⟩,
    ⟨(some 33), (.mv (.t 1)), none⟩,
    ⟨(some 34), (.len (.t 33)), none⟩,
    ⟨(some 35), (.bin .lss (.t 32) (.t 34)), none⟩])
  (.cond (.t 35)
    (.seq (.ops [⟨(some 4), (.mv (.k (I (-1)))), none⟩])
    .ret)
    .skip))
  (.seq (.ops [⟨(some 4), (.mv (.k (I 0))), none⟩])
  .ret)))
theorem w45T1 {x : Cx} {Q : QT} {ks : List Kont} {fr : Fr} {H : AHeap} {ms : List Nat} : W x Q c45T1 ks fr H ms = W x Q (.keep [0, 1] (.seq (.seq (.ops [⟨(some 31), (.mv (.t 0)), none⟩,
      ⟨(some 32), (.len (.t 31)), none⟩,
      ⟨(some 33), (.mv (.t 1)), none⟩,
      ⟨(some 34), (.len (.t 33)), none⟩,
      ⟨(some 35), (.bin .lss (.t 32) (.t 34)), none⟩])
    (.cond (.t 35)
      (.seq (.ops [⟨(some 4), (.mv (.k (I (-1)))), none⟩])
      .ret)
      .skip))
    (.seq (.ops [⟨(some 4), (.mv (.k (I 0))), none⟩])
    .ret))) ks fr H ms := rfl
/- live: [0, 1, 9, 10, 11] -/
def c45L0 : ICode :=
  (.seq (.ops [⟨(some 12), (.bin .lss (.t 11) (.t 10)), none⟩])
  (.seq (.cond (.t 12)
    .skip
    (.exit 0))
  (.seq (.block 1 (.seq (.ops [⟨(some 13), (.mv (.t 11)), none⟩,
    ⟨(some 14), (.ixS 1 (.t 9) (.t 11)), none⟩,
    ⟨(some 15), (.load false 1 (.t 14)), none⟩,
    ⟨(some 5), (.mv (.t 13)), none⟩,
    ⟨(some 6), (.mv (.t 15)), none⟩])
  (.seq (.seq (.ops [⟨(some 16), (.mv (.t 5)), none⟩,
    ⟨(some 17), (.mv (.t 1)), none⟩,
    ⟨(some 18), (.len (.t 17)), none⟩,
    ⟨(some 19), (.bin .geq (.t 16) (.t 18)), none⟩])
  (.cond (.t 19)
    (.seq (.ops [⟨(some 4), (.mv (.k (I 1))), none⟩])
    .ret)
    .skip))
  (.seq (.ops [⟨(some 20), (.mv (.t 1)), none⟩,
    ⟨(some 21), (.mv (.t 5)), none⟩,
    ⟨(some 22), (.ixS 1 (.t 20) (.t 21)), none⟩,
    ⟨(some 23), (.load false 1 (.t 22)), none⟩,
    ⟨(some 7), (.mv (.t 23)), none⟩])
  (.seq (.ops [⟨(some 24), (.mv (.t 6)), none⟩,
    ⟨(some 25), (.mv (.t 7)), none⟩,
    ⟨(some 26), (.call (.k (.fn (.func 69) [] [])) [(.t 24), (.t 25)]), none⟩,
    ⟨(some 8), (.mv (.t 26)), none⟩])
  (.seq (.ops [⟨(some 27), (.mv (.t 8)), none⟩,
    ⟨(some 28), (.bin .neq (.t 27) (.k (I 0))), none⟩])
  (.cond (.t 28)
    (.seq (.ops [⟨(some 29), (.mv (.t 8)), none⟩,
      ⟨(some 4), (.mv (.t 29)), none⟩])
    .ret)
    .skip)))))))
  (.ops [⟨(some 30), (.bin .add (.t 11) (.k (I 1))), none⟩,
    ⟨(some 11), (.mv (.t 30)), none⟩]))))
theorem w45L0 {x : Cx} {Q : QT} {ks : List Kont} {fr : Fr} {H : AHeap} {ms : List Nat} : W x Q c45L0 ks fr H ms = W x Q (.seq (.ops [⟨(some 12), (.bin .lss (.t 11) (.t 10)), none⟩])
    (.seq (.cond (.t 12)
      .skip
      (.exit 0))
    (.seq (.block 1 (.seq (.ops [⟨(some 13), (.mv (.t 11)), none⟩,
      ⟨(some 14), (.ixS 1 (.t 9) (.t 11)), none⟩,
      ⟨(some 15), (.load false 1 (.t 14)), none⟩,
      ⟨(some 5), (.mv (.t 13)), none⟩,
      ⟨(some 6), (.mv (.t 15)), none⟩])
    (.seq (.seq (.ops [⟨(some 16), (.mv (.t 5)), none⟩,
      ⟨(some 17), (.mv (.t 1)), none⟩,
      ⟨(some 18), (.len (.t 17)), none⟩,
      ⟨(some 19), (.bin .geq (.t 16) (.t 18)), none⟩])
    (.cond (.t 19)
      (.seq (.ops [⟨(some 4), (.mv (.k (I 1))), none⟩])
      .ret)
      .skip))
    (.seq (.ops [⟨(some 20), (.mv (.t 1)), none⟩,
      ⟨(some 21), (.mv (.t 5)), none⟩,
      ⟨(some 22), (.ixS 1 (.t 20) (.t 21)), none⟩,
      ⟨(some 23), (.load false 1 (.t 22)), none⟩,
      ⟨(some 7), (.mv (.t 23)), none⟩])
    (.seq (.ops [⟨(some 24), (.mv (.t 6)), none⟩,
      ⟨(some 25), (.mv (.t 7)), none⟩,
      ⟨(some 26), (.call (.k (.fn (.func 69) [] [])) [(.t 24), (.t 25)]), none⟩,
      ⟨(some 8), (.mv (.t 26)), none⟩])
    (.seq (.ops [⟨(some 27), (.mv (.t 8)), none⟩,
      ⟨(some 28), (.bin .neq (.t 27) (.k (I 0))), none⟩])
    (.cond (.t 28)
      (.seq (.ops [⟨(some 29), (.mv (.t 8)), none⟩,
        ⟨(some 4), (.mv (.t 29)), none⟩])
      .ret)
      .skip)))))))
    (.ops [⟨(some 30), (.bin .add (.t 11) (.k (I 1))), none⟩,
      ⟨(some 11), (.mv (.t 30)), none⟩])))) ks fr H ms := rfl
def c45 : ICode :=
  (.seq (.ops [⟨(some 4), (.mv (.k (I 0))), none⟩])
  (.seq (.seq (.ops [⟨(some 9), (.mv (.t 0)), none⟩,
    ⟨(some 10), (.len (.t 9)), none⟩,
    ⟨(some 11), (.mv (.k (I 0))), none⟩])
  (.block 0 (.loop c45L0)))
  c45T1))
theorem w45 {x : Cx} {Q : QT} {ks : List Kont} {fr : Fr} {H : AHeap} {ms : List Nat} : W x Q c45 ks fr H ms = W x Q (.seq (.ops [⟨(some 4), (.mv (.k (I 0))), none⟩])
    (.seq (.seq (.ops [⟨(some 9), (.mv (.t 0)), none⟩,
      ⟨(some 10), (.len (.t 9)), none⟩,
      ⟨(some 11), (.mv (.k (I 0))), none⟩])
    (.block 0 (.loop c45L0)))
    c45T1)) ks fr H ms := rfl
def r45 : List IRes := [(.tmp 4)]
theorem t45 : Try.f45.body.bind (trCode Try.prog Try.f45.ntmps) = some (strip c45) := by kernel_rfl
theorem q45 : trRes Try.prog Try.f45.results.toList = some r45 := by kernel_rfl
theorem fn45 : Try.prog.funcs[45]? = some Try.f45 := by kernel_rfl
theorem nn45 : (Try.f45.name == "runtime.NumGoroutine") = false := by kernel_rfl
theorem nt45 : Try.f45.ntmps = 36 := by kernel_rfl
def c65T1 : ICode :=
  (.keep [] (.seq (.ops [⟨(some 4), (.mv (.k (I (-1)))), none⟩])
  .ret))
theorem w65T1 {x : Cx} {Q : QT} {ks : List Kont} {fr : Fr} {H : AHeap} {ms : List Nat} : W x Q c65T1 ks fr H ms = W x Q (.keep [] (.seq (.ops [⟨(some 4), (.mv (.k (I (-1)))), none⟩])
    .ret)) ks fr H ms := rfl
/- live: [0, 1, 7, 8] -/
def c65L0 : ICode :=
  (.seq (.ops [⟨(some 9), (.bin .lss (.t 8) (.t 7)), none⟩])
  (.seq (.cond (.t 9)
    .skip
    (.exit 0))
  (.seq (.block 1 (.seq (.ops [⟨(some 10), (.mv (.t 8)), none⟩,
    ⟨(some 5), (.mv (.t 10)), none⟩])
  (.seq (.ops [⟨(some 11), (.mv (.t 1)), none⟩,
    ⟨(some 12), (.mv (.t 0)), none⟩,
    ⟨(some 13), (.mv (.t 5)), none⟩,
    ⟨(some 14), (.ixS 1 (.t 12) (.t 13)), none⟩,
    ⟨(some 15), (.load false 1 (.t 14)), none⟩,
    ⟨(some 16), (.call (.t 11) [(.t 15)]), none⟩])
  (.cond (.t 16)
    (.seq (.ops [⟨(some 17), (.mv (.t 5)), none⟩,
      ⟨(some 4), (.mv (.t 17)), none⟩])
    .ret)
    .skip))))
  (.ops [⟨(some 18), (.bin .add (.t 8) (.k (I 1))), none⟩,
    ⟨(some 8), (.mv (.t 18)), none⟩]))))
theorem w65L0 {x : Cx} {Q : QT} {ks : List Kont} {fr : Fr} {H : AHeap} {ms : List Nat} : W x Q c65L0 ks fr H ms = W x Q (.seq (.ops [⟨(some 9), (.bin .lss (.t 8) (.t 7)), none⟩])
    (.seq (.cond (.t 9)
      .skip
      (.exit 0))
    (.seq (.block 1 (.seq (.ops [⟨(some 10), (.mv (.t 8)), none⟩,
      ⟨(some 5), (.mv (.t 10)), none⟩])
    (.seq (.ops [⟨(some 11), (.mv (.t 1)), none⟩,
      ⟨(some 12), (.mv (.t 0)), none⟩,
      ⟨(some 13), (.mv (.t 5)), none⟩,
      ⟨(some 14), (.ixS 1 (.t 12) (.t 13)), none⟩,
      ⟨(some 15), (.load false 1 (.t 14)), none⟩,
      ⟨(some 16), (.call (.t 11) [(.t 15)]), none⟩])
    (.cond (.t 16)
      (.seq (.ops [⟨(some 17), (.mv (.t 5)), none⟩,
        ⟨(some 4), (.mv (.t 17)), none⟩])
      .ret)
      .skip))))
    (.ops [⟨(some 18), (.bin .add (.t 8) (.k (I 1))), none⟩,
      ⟨(some 8), (.mv (.t 18)), none⟩])))) ks fr H ms := rfl
def c65 : ICode :=
  (.seq (.ops [⟨(some 4), (.mv (.k (I 0))), none⟩])
  (.seq (.seq (.ops [⟨(some 6), (.mv (.t 0)), none⟩,
    ⟨(some 7), (.len (.t 6)), none⟩,
    ⟨(some 8), (.mv (.k (I 0))), none⟩])
  (.block 0 (.loop c65L0)))
  c65T1))
theorem w65 {x : Cx} {Q : QT} {ks : List Kont} {fr : Fr} {H : AHeap} {ms : List Nat} : W x Q c65 ks fr H ms = W x Q (.seq (.ops [⟨(some 4), (.mv (.k (I 0))), none⟩])
    (.seq (.seq (.ops [⟨(some 6), (.mv (.t 0)), none⟩,
      ⟨(some 7), (.len (.t 6)), none⟩,
      ⟨(some 8), (.mv (.k (I 0))), none⟩])
    (.block 0 (.loop c65L0)))
    c65T1)) ks fr H ms := rfl
def r65 : List IRes := [(.tmp 4)]
theorem t65 : Try.f65.body.bind (trCode Try.prog Try.f65.ntmps) = some (strip c65) := by kernel_rfl
theorem q65 : trRes Try.prog Try.f65.results.toList = some r65 := by kernel_rfl
theorem fn65 : Try.prog.funcs[65]? = some Try.f65 := by kernel_rfl
theorem nn65 : (Try.f65.name == "runtime.NumGoroutine") = false := by kernel_rfl
theorem nt65 : Try.f65.ntmps = 19 := by kernel_rfl
def c69 : ICode :=
  (.seq (.ops [⟨(some 4), (.mv (.k (I 0))), none⟩])
  (.seq (.ops [⟨(some 7), (.mv (.t 0)), none⟩,
    ⟨(some 8), (.call (.k (.fn (.func 86) [] [])) [(.t 7)]), none⟩,
    ⟨(some 5), (.mv (.t 8)), none⟩])
  (.seq (.ops [⟨(some 9), (.mv (.t 1)), none⟩,
    ⟨(some 10), (.call (.k (.fn (.func 86) [] [])) [(.t 9)]), none⟩,
    ⟨(some 6), (.mv (.t 10)), none⟩])
  (.seq (.seq (.ops [⟨(some 11), (.mv (.t 5)), none⟩])
  (.cond (.t 11)
    (.seq (.seq (.ops [⟨(some 12), (.mv (.t 6)), none⟩])
    (.cond (.t 12)
      (.seq (.ops [⟨(some 4), (.mv (.k (I 0))), none⟩])
      .ret)
      .skip))
    (.seq (.ops [⟨(some 4), (.mv (.k (I (-1)))), none⟩])
    .ret))
    .skip))
  (.seq (.seq (.ops [⟨(some 13), (.mv (.t 6)), none⟩])
  (.cond (.t 13)
    (.seq (.ops [⟨(some 4), (.mv (.k (I 1))), none⟩])
    .ret)
    .skip))
  (.seq (.seq (.ops [⟨(some 14), (.mv (.t 0)), none⟩,
    ⟨(some 15), (.mv (.t 1)), none⟩,
    ⟨(some 16), (.bin .lss (.t 14) (.t 15)), none⟩])
  (.cond (.t 16)
    (.seq (.ops [⟨(some 4), (.mv (.k (I (-1)))), none⟩])
    .ret)
    .skip))
  (.seq (.seq (.ops [⟨(some 17), (.mv (.t 0)), none⟩,
    ⟨(some 18), (.mv (.t 1)), none⟩,
    ⟨(some 19), (.bin .gtr (.t 17) (.t 18)), none⟩])
  (.cond (.t 19)
    (.seq (.ops [⟨(some 4), (.mv (.k (I 1))), none⟩])
    .ret)
    .skip))
  (.seq (.ops [⟨(some 4), (.mv (.k (I 0))), none⟩])
  .ret))))))))
theorem w69 {x : Cx} {Q : QT} {ks : List Kont} {fr : Fr} {H : AHeap} {ms : List Nat} : W x Q c69 ks fr H ms = W x Q (.seq (.ops [⟨(some 4), (.mv (.k (I 0))), none⟩])
    (.seq (.ops [⟨(some 7), (.mv (.t 0)), none⟩,
      ⟨(some 8), (.call (.k (.fn (.func 86) [] [])) [(.t 7)]), none⟩,
      ⟨(some 5), (.mv (.t 8)), none⟩])
    (.seq (.ops [⟨(some 9), (.mv (.t 1)), none⟩,
      ⟨(some 10), (.call (.k (.fn (.func 86) [] [])) [(.t 9)]), none⟩,
      ⟨(some 6), (.mv (.t 10)), none⟩])
    (.seq (.seq (.ops [⟨(some 11), (.mv (.t 5)), none⟩])
    (.cond (.t 11)
      (.seq (.seq (.ops [⟨(some 12), (.mv (.t 6)), none⟩])
      (.cond (.t 12)
        (.seq (.ops [⟨(some 4), (.mv (.k (I 0))), none⟩])
        .ret)
        .skip))
      (.seq (.ops [⟨(some 4), (.mv (.k (I (-1)))), none⟩])
      .ret))
      .skip))
    (.seq (.seq (.ops [⟨(some 13), (.mv (.t 6)), none⟩])
    (.cond (.t 13)
      (.seq (.ops [⟨(some 4), (.mv (.k (I 1))), none⟩])
      .ret)
      .skip))
    (.seq (.seq (.ops [⟨(some 14), (.mv (.t 0)), none⟩,
      ⟨(some 15), (.mv (.t 1)), none⟩,
      ⟨(some 16), (.bin .lss (.t 14) (.t 15)), none⟩])
    (.cond (.t 16)
      (.seq (.ops [⟨(some 4), (.mv (.k (I (-1)))), none⟩])
      .ret)
      .skip))
    (.seq (.seq (.ops [⟨(some 17), (.mv (.t 0)), none⟩,
      ⟨(some 18), (.mv (.t 1)), none⟩,
      ⟨(some 19), (.bin .gtr (.t 17) (.t 18)), none⟩])
    (.cond (.t 19)
      (.seq (.ops [⟨(some 4), (.mv (.k (I 1))), none⟩])
      .ret)
      .skip))
    (.seq (.ops [⟨(some 4), (.mv (.k (I 0))), none⟩])
    .ret)))))))) ks fr H ms := rfl
def r69 : List IRes := [(.tmp 4)]
theorem t69 : Try.f69.body.bind (trCode Try.prog Try.f69.ntmps) = some (strip c69) := by kernel_rfl
theorem q69 : trRes Try.prog Try.f69.results.toList = some r69 := by kernel_rfl
theorem fn69 : Try.prog.funcs[69]? = some Try.f69 := by kernel_rfl
theorem nn69 : (Try.f69.name == "runtime.NumGoroutine") = false := by kernel_rfl
theorem nt69 : Try.f69.ntmps = 20 := by kernel_rfl
def c86 : ICode :=
  (.seq (.ops [⟨(some 2), (.mv (.k (B false))), none⟩])
  (.seq (.ops [⟨(some 3), (.mv (.t 0)), none⟩,
    ⟨(some 4), (.mv (.t 0)), none⟩,
    ⟨(some 5), (.bin .neq (.t 3) (.t 4)), none⟩,
    ⟨(some 2), (.mv (.t 5)), none⟩])
  .ret))
theorem w86 {x : Cx} {Q : QT} {ks : List Kont} {fr : Fr} {H : AHeap} {ms : List Nat} : W x Q c86 ks fr H ms = W x Q (.seq (.ops [⟨(some 2), (.mv (.k (B false))), none⟩])
    (.seq (.ops [⟨(some 3), (.mv (.t 0)), none⟩,
      ⟨(some 4), (.mv (.t 0)), none⟩,
      ⟨(some 5), (.bin .neq (.t 3) (.t 4)), none⟩,
      ⟨(some 2), (.mv (.t 5)), none⟩])
    .ret)) ks fr H ms := rfl
def r86 : List IRes := [(.tmp 2)]
theorem t86 : Try.f86.body.bind (trCode Try.prog Try.f86.ntmps) = some (strip c86) := by kernel_rfl
theorem q86 : trRes Try.prog Try.f86.results.toList = some r86 := by kernel_rfl
theorem fn86 : Try.prog.funcs[86]? = some Try.f86 := by kernel_rfl
theorem nn86 : (Try.f86.name == "runtime.NumGoroutine") = false := by kernel_rfl
theorem nt86 : Try.f86.ntmps = 6 := by kernel_rfl
end Go.Proofs.Ytkmmngphcodjjaa
