/- The code of some functions of the program, cleaned: printed by a program of mine, checked here. -/
import Derived.Test.YtkmmngphcodjjaaProg
import Derived.Test.YtkmmngphcodjjaaAS
import Derived.KernelRfl
import Derived.Test.YtkmmngphcodjjaaCE
namespace Go.Proofs.Ytkmmngphcodjjaa
open Go.Abs AVal
def c37 : ICode :=
  (.seq (.ops [⟨(some 4), (.mv (.k (I 0))), none⟩,
    ⟨(some 5), (.mv (.k (I 0))), none⟩])
  (.seq (.ops [⟨(some 6), (.mv (.t 0)), none⟩,
    ⟨(some 7), (.mv (.t 1)), none⟩,
    ⟨(some 8), (.call (.k (.fn (.func 66) [] [])) [(.t 6), (.t 7), (.k (B false))]), none⟩,
    ⟨(some 9), (.ext (.t 8) 0), none⟩,
    ⟨(some 10), (.ext (.t 8) 1), none⟩,
    ⟨(some 4), (.mv (.t 9)), none⟩,
    ⟨(some 5), (.mv (.t 10)), none⟩])
  .ret))
theorem w37 {x : Cx} {Q : QT} {ks : List Kont} {fr : Fr} {H : AHeap} {ms : List Nat} : W x Q c37 ks fr H ms = W x Q (.seq (.ops [⟨(some 4), (.mv (.k (I 0))), none⟩,
      ⟨(some 5), (.mv (.k (I 0))), none⟩])
    (.seq (.ops [⟨(some 6), (.mv (.t 0)), none⟩,
      ⟨(some 7), (.mv (.t 1)), none⟩,
      ⟨(some 8), (.call (.k (.fn (.func 66) [] [])) [(.t 6), (.t 7), (.k (B false))]), none⟩,
      ⟨(some 9), (.ext (.t 8) 0), none⟩,
      ⟨(some 10), (.ext (.t 8) 1), none⟩,
      ⟨(some 4), (.mv (.t 9)), none⟩,
      ⟨(some 5), (.mv (.t 10)), none⟩])
    .ret)) ks fr H ms := rfl
def r37 : List IRes := [(.tmp 4), (.tmp 5)]
theorem t37 : Try.f37.body.bind (trCode Try.prog Try.f37.ntmps) = some (strip c37) := by kernel_rfl
theorem q37 : trRes Try.prog Try.f37.results.toList = some r37 := by kernel_rfl
theorem fn37 : Try.prog.funcs[37]? = some Try.f37 := by kernel_rfl
theorem nn37 : (Try.f37.name == "runtime.NumGoroutine") = false := by kernel_rfl
theorem nt37 : Try.f37.ntmps = 11 := by kernel_rfl
def c38 : ICode :=
  (.seq (.ops [⟨(some 4), (.mv (.k (I 0))), none⟩,
    ⟨(some 5), (.mv (.k (I 0))), none⟩])
  (.seq (.ops [⟨(some 6), (.mv (.t 0)), none⟩,
    ⟨(some 7), (.mv (.t 1)), none⟩,
    ⟨(some 8), (.call (.k (.fn (.func 66) [] [])) [(.t 6), (.t 7), (.k (B true))]), none⟩,
    ⟨(some 9), (.ext (.t 8) 0), none⟩,
    ⟨(some 10), (.ext (.t 8) 1), none⟩,
    ⟨(some 4), (.mv (.t 9)), none⟩,
    ⟨(some 5), (.mv (.t 10)), none⟩])
  .ret))
theorem w38 {x : Cx} {Q : QT} {ks : List Kont} {fr : Fr} {H : AHeap} {ms : List Nat} : W x Q c38 ks fr H ms = W x Q (.seq (.ops [⟨(some 4), (.mv (.k (I 0))), none⟩,
      ⟨(some 5), (.mv (.k (I 0))), none⟩])
    (.seq (.ops [⟨(some 6), (.mv (.t 0)), none⟩,
      ⟨(some 7), (.mv (.t 1)), none⟩,
      ⟨(some 8), (.call (.k (.fn (.func 66) [] [])) [(.t 6), (.t 7), (.k (B true))]), none⟩,
      ⟨(some 9), (.ext (.t 8) 0), none⟩,
      ⟨(some 10), (.ext (.t 8) 1), none⟩,
      ⟨(some 4), (.mv (.t 9)), none⟩,
      ⟨(some 5), (.mv (.t 10)), none⟩])
    .ret)) ks fr H ms := rfl
def r38 : List IRes := [(.tmp 4), (.tmp 5)]
theorem t38 : Try.f38.body.bind (trCode Try.prog Try.f38.ntmps) = some (strip c38) := by kernel_rfl
theorem q38 : trRes Try.prog Try.f38.results.toList = some r38 := by kernel_rfl
theorem fn38 : Try.prog.funcs[38]? = some Try.f38 := by kernel_rfl
theorem nn38 : (Try.f38.name == "runtime.NumGoroutine") = false := by kernel_rfl
theorem nt38 : Try.f38.ntmps = 11 := by kernel_rfl
def c39R0a : ICode :=
  (.ops [⟨(some 7), (.mv (.t 28)), none⟩])
theorem w39R0a {x : Cx} {Q : QT} {ks : List Kont} {fr : Fr} {H : AHeap} {ms : List Nat} : W x Q c39R0a ks fr H ms = W x Q (.ops [⟨(some 7), (.mv (.t 28)), none⟩]) ks fr H ms := rfl
theorem t39R0a : trCode Try.prog 48 (asOf Try.f39 0) = some (strip c39R0a) := by kernel_rfl
def c39R0b : ICode :=
  (.block 1 (.seq (.draw 0 [] (.early 1 ⟨(some 30), (.load false 1 (.t 6)), none⟩
    (.early 1 ⟨(some 31), (.load false 1 (.t 2)), none⟩
    (.early 1 ⟨(some 32), (.len (.t 31)), none⟩
    (.early 1 ⟨(some 33), (.bin .shl (.k (I 1)) (.t 32)), none⟩
    (.early 1 ⟨(some 34), (.bin .sub (.t 33) (.k (I 1))), none⟩
    (.early 1 ⟨(some 35), (.mv (.t 7)), none⟩
    (.early 1 ⟨(some 36), (.load false 1 (.t 3)), none⟩
    (.step 0 0 ⟨(some 37), (.call (.k (.fn (.func 67) [] [])) [(.t 30), (.t 34), (.t 35), (.t 36)]), none⟩
    (.early 0 ⟨(some 29), (.mv (.t 37)), none⟩
    (.early 1 ⟨(some 38), (.ext (.t 29) 0), none⟩
    (.early 1 ⟨(some 39), (.ext (.t 29) 1), none⟩
    (.early 1 ⟨(some 8), (.mv (.t 38)), none⟩
    (.early 0 ⟨(some 9), (.mv (.t 39)), none⟩
    .done))))))))))))))
  (.seq (.ops [⟨(some 40), (.mv (.t 9)), none⟩,
    ⟨(some 41), (.bin .eql (.t 40) (.k (I 0))), none⟩,
    ⟨(some 42), (.mv (.t 41)), none⟩,
    ⟨(some 43), (.mv (.t 8)), (some (42, true))⟩,
    ⟨(some 44), (.bin .gtr (.t 43) (.k (I 0))), (some (42, true))⟩,
    ⟨(some 45), (.pick (.t 42) (.t 44) (.k (B false))), none⟩])
  (.cond (.t 45)
    (.seq (.ops [⟨(some 46), (.mv (.t 7)), none⟩,
      ⟨(some 47), (.call (.k (.fn (.func 43) [] [])) [(.t 46)]), none⟩,
      ⟨none, (.store 1 (.t 4) (.t 47)), none⟩,
      ⟨none, (.store 1 (.t 5) (.k (I 0))), none⟩])
    .ret)
    .skip))))
theorem w39R0b {x : Cx} {Q : QT} {ks : List Kont} {fr : Fr} {H : AHeap} {ms : List Nat} : W x Q c39R0b ks fr H ms = W x Q (.block 1 (.seq (.draw 0 [] (.early 1 ⟨(some 30), (.load false 1 (.t 6)), none⟩
      (.early 1 ⟨(some 31), (.load false 1 (.t 2)), none⟩
      (.early 1 ⟨(some 32), (.len (.t 31)), none⟩
      (.early 1 ⟨(some 33), (.bin .shl (.k (I 1)) (.t 32)), none⟩
      (.early 1 ⟨(some 34), (.bin .sub (.t 33) (.k (I 1))), none⟩
      (.early 1 ⟨(some 35), (.mv (.t 7)), none⟩
      (.early 1 ⟨(some 36), (.load false 1 (.t 3)), none⟩
      (.step 0 0 ⟨(some 37), (.call (.k (.fn (.func 67) [] [])) [(.t 30), (.t 34), (.t 35), (.t 36)]), none⟩
      (.early 0 ⟨(some 29), (.mv (.t 37)), none⟩
      (.early 1 ⟨(some 38), (.ext (.t 29) 0), none⟩
      (.early 1 ⟨(some 39), (.ext (.t 29) 1), none⟩
      (.early 1 ⟨(some 8), (.mv (.t 38)), none⟩
      (.early 0 ⟨(some 9), (.mv (.t 39)), none⟩
      .done))))))))))))))
    (.seq (.ops [⟨(some 40), (.mv (.t 9)), none⟩,
      ⟨(some 41), (.bin .eql (.t 40) (.k (I 0))), none⟩,
      ⟨(some 42), (.mv (.t 41)), none⟩,
      ⟨(some 43), (.mv (.t 8)), (some (42, true))⟩,
      ⟨(some 44), (.bin .gtr (.t 43) (.k (I 0))), (some (42, true))⟩,
      ⟨(some 45), (.pick (.t 42) (.t 44) (.k (B false))), none⟩])
    (.cond (.t 45)
      (.seq (.ops [⟨(some 46), (.mv (.t 7)), none⟩,
        ⟨(some 47), (.call (.k (.fn (.func 43) [] [])) [(.t 46)]), none⟩,
        ⟨none, (.store 1 (.t 4) (.t 47)), none⟩,
        ⟨none, (.store 1 (.t 5) (.k (I 0))), none⟩])
      .ret)
      .skip)))) ks fr H ms := rfl
theorem t39R0b : trCode Try.prog 48 (bdOf Try.f39 0) = some (strip c39R0b) := by kernel_rfl
def c39T0 : ICode :=
  (.seq (.ops [⟨none, (.store 1 (.t 4) (.k nilSl)), none⟩,
    ⟨none, (.store 1 (.t 5) (.k (I 4))), none⟩])
  .ret)
theorem w39T0 {x : Cx} {Q : QT} {ks : List Kont} {fr : Fr} {H : AHeap} {ms : List Nat} : W x Q c39T0 ks fr H ms = W x Q (.seq (.ops [⟨none, (.store 1 (.t 4) (.k nilSl)), none⟩,
      ⟨none, (.store 1 (.t 5) (.k (I 4))), none⟩])
    .ret) ks fr H ms := rfl
noncomputable def c39 : ICode :=
  (.seq (.ops [⟨(some 2), (.box (.t 0)), none⟩,
    ⟨(some 3), (.box (.t 1)), none⟩,
    ⟨(some 4), (.alloc [nilSl]), none⟩,
    ⟨(some 5), (.alloc [(I 0)]), none⟩])
  (.seq (.ops [⟨(some 10), (.load false 1 (.t 2)), none⟩,
    ⟨(some 6), (.alloc [nilSl]), none⟩,
    ⟨none, (.store 1 (.t 6) (.t 10)), none⟩])
  (.seq (.seq (.ops [⟨(some 11), (.load false 1 (.t 6)), none⟩,
    ⟨(some 12), (.call (.k (.fn (.func 55) [] [])) [(.t 11)]), none⟩,
    ⟨(some 13), (.un .not (.t 12)), none⟩,
    ⟨(some 14), (.mv (.t 13)), none⟩,
    ⟨(some 15), (.load false 1 (.t 3)), (some (14, false))⟩,
    ⟨(some 16), (.load false 1 (.t 2)), (some (14, false))⟩,
    ⟨(some 17), (.len (.t 16)), (some (14, false))⟩,
    ⟨(some 18), (.call (.k (.fn (.func 59) [] [])) [(.t 15), (.t 17)]), (some (14, false))⟩,
    ⟨(some 19), (.un .not (.t 18)), (some (14, false))⟩,
    ⟨(some 20), (.pick (.t 14) (.k (B true)) (.t 19)), none⟩])
  (.cond (.t 20)
    (.seq (.ops [⟨none, (.store 1 (.t 4) (.k nilSl)), none⟩,
      ⟨none, (.store 1 (.t 5) (.k (I 2))), none⟩])
    .ret)
    .skip))
  (.seq (.seq (.draw 0 [] (.early 1 ⟨(some 21), (.load false 1 (.t 2)), none⟩
    (.early 1 ⟨(some 22), (.len (.t 21)), none⟩
    (.early 1 ⟨(some 23), (.load false 1 (.t 2)), none⟩
    (.early 1 ⟨(some 24), (.len (.t 23)), none⟩
    (.early 1 ⟨(some 25), (.bin .shl (.k (I 1)) (.t 24)), none⟩
    (.early 1 ⟨(some 26), (.bin .sub (.t 25) (.k (I 1))), none⟩
    (.step 0 0 ⟨(some 27), (.call (.k (.fn (.func 63) [] [])) [(.t 22), (.t 26)]), none⟩
    .done))))))))
  (.block 0 (.range (.t 27) [28] (asOf Try.f39 0) (bdOf Try.f39 0))))
  c39T0))))
theorem w39 {x : Cx} {Q : QT} {ks : List Kont} {fr : Fr} {H : AHeap} {ms : List Nat} : W x Q c39 ks fr H ms = W x Q (.seq (.ops [⟨(some 2), (.box (.t 0)), none⟩,
      ⟨(some 3), (.box (.t 1)), none⟩,
      ⟨(some 4), (.alloc [nilSl]), none⟩,
      ⟨(some 5), (.alloc [(I 0)]), none⟩])
    (.seq (.ops [⟨(some 10), (.load false 1 (.t 2)), none⟩,
      ⟨(some 6), (.alloc [nilSl]), none⟩,
      ⟨none, (.store 1 (.t 6) (.t 10)), none⟩])
    (.seq (.seq (.ops [⟨(some 11), (.load false 1 (.t 6)), none⟩,
      ⟨(some 12), (.call (.k (.fn (.func 55) [] [])) [(.t 11)]), none⟩,
      ⟨(some 13), (.un .not (.t 12)), none⟩,
      ⟨(some 14), (.mv (.t 13)), none⟩,
      ⟨(some 15), (.load false 1 (.t 3)), (some (14, false))⟩,
      ⟨(some 16), (.load false 1 (.t 2)), (some (14, false))⟩,
      ⟨(some 17), (.len (.t 16)), (some (14, false))⟩,
      ⟨(some 18), (.call (.k (.fn (.func 59) [] [])) [(.t 15), (.t 17)]), (some (14, false))⟩,
      ⟨(some 19), (.un .not (.t 18)), (some (14, false))⟩,
      ⟨(some 20), (.pick (.t 14) (.k (B true)) (.t 19)), none⟩])
    (.cond (.t 20)
      (.seq (.ops [⟨none, (.store 1 (.t 4) (.k nilSl)), none⟩,
        ⟨none, (.store 1 (.t 5) (.k (I 2))), none⟩])
      .ret)
      .skip))
    (.seq (.seq (.draw 0 [] (.early 1 ⟨(some 21), (.load false 1 (.t 2)), none⟩
      (.early 1 ⟨(some 22), (.len (.t 21)), none⟩
      (.early 1 ⟨(some 23), (.load false 1 (.t 2)), none⟩
      (.early 1 ⟨(some 24), (.len (.t 23)), none⟩
      (.early 1 ⟨(some 25), (.bin .shl (.k (I 1)) (.t 24)), none⟩
      (.early 1 ⟨(some 26), (.bin .sub (.t 25) (.k (I 1))), none⟩
      (.step 0 0 ⟨(some 27), (.call (.k (.fn (.func 63) [] [])) [(.t 22), (.t 26)]), none⟩
      .done))))))))
    (.block 0 (.range (.t 27) [28] (asOf Try.f39 0) (bdOf Try.f39 0))))
    c39T0)))) ks fr H ms := rfl
def r39 : List IRes := [(.cell false 1 4), (.cell false 1 5)]
theorem t39 : Try.f39.body.bind (trCode Try.prog Try.f39.ntmps) = some (strip c39) := by kernel_rfl
theorem q39 : trRes Try.prog Try.f39.results.toList = some r39 := by kernel_rfl
theorem fn39 : Try.prog.funcs[39]? = some Try.f39 := by kernel_rfl
theorem nn39 : (Try.f39.name == "runtime.NumGoroutine") = false := by kernel_rfl
theorem nt39 : Try.f39.ntmps = 48 := by kernel_rfl
def c66T1 : ICode :=
  (.keep [] (.seq (.ops [⟨(some 6), (.mv (.k (I 0))), none⟩,
    ⟨(some 7), (.mv (.k (I 4))), none⟩])
  .ret))
theorem w66T1 {x : Cx} {Q : QT} {ks : List Kont} {fr : Fr} {H : AHeap} {ms : List Nat} : W x Q c66T1 ks fr H ms = W x Q (.keep [] (.seq (.ops [⟨(some 6), (.mv (.k (I 0))), none⟩,
      ⟨(some 7), (.mv (.k (I 4))), none⟩])
    .ret)) ks fr H ms := rfl
/- live: [0, 1, 2, 8, 9] -/
def c66L0 : ICode :=
  (.seq (.seq (.ops [⟨(some 21), (.mv (.t 9)), none⟩,
    ⟨(some 22), (.mv (.t 0)), none⟩,
    ⟨(some 23), (.len (.t 22)), none⟩,
    ⟨(some 24), (.bin .shl (.k (I 1)) (.t 23)), none⟩,
    ⟨(some 25), (.bin .lss (.t 21) (.t 24)), none⟩])
  (.cond (.t 25)
    .skip
    (.exit 0)))
  (.seq (.block 1 (.seq (.ops [⟨(some 28), (.mv (.t 8)), none⟩,
    ⟨(some 29), (.mv (.t 9)), none⟩,
    ⟨(some 30), (.mv (.t 1)), none⟩,
    ⟨(some 31), (.mv (.t 2)), none⟩,
    ⟨(some 32), (.call (.k (.fn (.func 84) [] [])) [(.t 28), (.t 29), (.t 30), (.t 31)]), none⟩])
  (.cond (.t 32)
    (.seq (.ops [⟨(some 33), (.mv (.t 9)), none⟩,
      ⟨(some 6), (.mv (.t 33)), none⟩,
      ⟨(some 7), (.mv (.k (I 0))), none⟩])
    .ret)
    .skip)))
  (.ops [⟨(some 26), (.mv (.t 9)), none⟩,
    ⟨(some 27), (.bin .add (.t 26) (.k (I 1))), none⟩,
    ⟨(some 9), (.mv (.t 27)), none⟩])))
theorem w66L0 {x : Cx} {Q : QT} {ks : List Kont} {fr : Fr} {H : AHeap} {ms : List Nat} : W x Q c66L0 ks fr H ms = W x Q (.seq (.seq (.ops [⟨(some 21), (.mv (.t 9)), none⟩,
      ⟨(some 22), (.mv (.t 0)), none⟩,
      ⟨(some 23), (.len (.t 22)), none⟩,
      ⟨(some 24), (.bin .shl (.k (I 1)) (.t 23)), none⟩,
      ⟨(some 25), (.bin .lss (.t 21) (.t 24)), none⟩])
    (.cond (.t 25)
      .skip
      (.exit 0)))
    (.seq (.block 1 (.seq (.ops [⟨(some 28), (.mv (.t 8)), none⟩,
      ⟨(some 29), (.mv (.t 9)), none⟩,
      ⟨(some 30), (.mv (.t 1)), none⟩,
      ⟨(some 31), (.mv (.t 2)), none⟩,
      ⟨(some 32), (.call (.k (.fn (.func 84) [] [])) [(.t 28), (.t 29), (.t 30), (.t 31)]), none⟩])
    (.cond (.t 32)
      (.seq (.ops [⟨(some 33), (.mv (.t 9)), none⟩,
        ⟨(some 6), (.mv (.t 33)), none⟩,
        ⟨(some 7), (.mv (.k (I 0))), none⟩])
      .ret)
      .skip)))
    (.ops [⟨(some 26), (.mv (.t 9)), none⟩,
      ⟨(some 27), (.bin .add (.t 26) (.k (I 1))), none⟩,
      ⟨(some 9), (.mv (.t 27)), none⟩]))) ks fr H ms := rfl
def c66 : ICode :=
  (.seq (.ops [⟨(some 6), (.mv (.k (I 0))), none⟩,
    ⟨(some 7), (.mv (.k (I 0))), none⟩])
  (.seq (.ops [⟨(some 10), (.mv (.t 0)), none⟩,
    ⟨(some 8), (.mv (.t 10)), none⟩])
  (.seq (.seq (.ops [⟨(some 11), (.mv (.t 8)), none⟩,
    ⟨(some 12), (.call (.k (.fn (.func 55) [] [])) [(.t 11)]), none⟩,
    ⟨(some 13), (.un .not (.t 12)), none⟩,
    ⟨(some 14), (.mv (.t 13)), none⟩,
    ⟨(some 15), (.mv (.t 1)), (some (14, false))⟩,
    ⟨(some 16), (.mv (.t 0)), (some (14, false))⟩,
    ⟨(some 17), (.len (.t 16)), (some (14, false))⟩,
    ⟨(some 18), (.call (.k (.fn (.func 59) [] [])) [(.t 15), (.t 17)]), (some (14, false))⟩,
    ⟨(some 19), (.un .not (.t 18)), (some (14, false))⟩,
    ⟨(some 20), (.pick (.t 14) (.k (B true)) (.t 19)), none⟩])
  (.cond (.t 20)
    (.seq (.ops [⟨(some 6), (.mv (.k (I 0))), none⟩,
      ⟨(some 7), (.mv (.k (I 2))), none⟩])
    .ret)
    .skip))
  (.seq (.seq (.ops [⟨(some 9), (.mv (.k (I 1))), none⟩])
  (.block 0 (.loop c66L0)))
  c66T1))))
theorem w66 {x : Cx} {Q : QT} {ks : List Kont} {fr : Fr} {H : AHeap} {ms : List Nat} : W x Q c66 ks fr H ms = W x Q (.seq (.ops [⟨(some 6), (.mv (.k (I 0))), none⟩,
      ⟨(some 7), (.mv (.k (I 0))), none⟩])
    (.seq (.ops [⟨(some 10), (.mv (.t 0)), none⟩,
      ⟨(some 8), (.mv (.t 10)), none⟩])
    (.seq (.seq (.ops [⟨(some 11), (.mv (.t 8)), none⟩,
      ⟨(some 12), (.call (.k (.fn (.func 55) [] [])) [(.t 11)]), none⟩,
      ⟨(some 13), (.un .not (.t 12)), none⟩,
      ⟨(some 14), (.mv (.t 13)), none⟩,
      ⟨(some 15), (.mv (.t 1)), (some (14, false))⟩,
      ⟨(some 16), (.mv (.t 0)), (some (14, false))⟩,
      ⟨(some 17), (.len (.t 16)), (some (14, false))⟩,
      ⟨(some 18), (.call (.k (.fn (.func 59) [] [])) [(.t 15), (.t 17)]), (some (14, false))⟩,
      ⟨(some 19), (.un .not (.t 18)), (some (14, false))⟩,
      ⟨(some 20), (.pick (.t 14) (.k (B true)) (.t 19)), none⟩])
    (.cond (.t 20)
      (.seq (.ops [⟨(some 6), (.mv (.k (I 0))), none⟩,
        ⟨(some 7), (.mv (.k (I 2))), none⟩])
      .ret)
      .skip))
    (.seq (.seq (.ops [⟨(some 9), (.mv (.k (I 1))), none⟩])
    (.block 0 (.loop c66L0)))
    c66T1)))) ks fr H ms := rfl
def r66 : List IRes := [(.tmp 6), (.tmp 7)]
theorem t66 : Try.f66.body.bind (trCode Try.prog Try.f66.ntmps) = some (strip c66) := by kernel_rfl
theorem q66 : trRes Try.prog Try.f66.results.toList = some r66 := by kernel_rfl
theorem fn66 : Try.prog.funcs[66]? = some Try.f66 := by kernel_rfl
theorem nn66 : (Try.f66.name == "runtime.NumGoroutine") = false := by kernel_rfl
theorem nt66 : Try.f66.ntmps = 34 := by kernel_rfl
def c67T1 : ICode :=
  (.keep [8, 9] (.seq (.ops [⟨(some 50), (.mv (.t 8)), none⟩,
    ⟨(some 51), (.mv (.t 9)), none⟩,
    ⟨(some 8), (.mv (.t 50)), none⟩,
    ⟨(some 9), (.mv (.t 51)), none⟩])
  .ret))
theorem w67T1 {x : Cx} {Q : QT} {ks : List Kont} {fr : Fr} {H : AHeap} {ms : List Nat} : W x Q c67T1 ks fr H ms = W x Q (.keep [8, 9] (.seq (.ops [⟨(some 50), (.mv (.t 8)), none⟩,
      ⟨(some 51), (.mv (.t 9)), none⟩,
      ⟨(some 8), (.mv (.t 50)), none⟩,
      ⟨(some 9), (.mv (.t 51)), none⟩])
    .ret)) ks fr H ms := rfl
/- live: [0, 1, 2, 3, 8, 9, 14, 15] -/
def c67L0 : ICode :=
  (.seq (.ops [⟨(some 16), (.bin .lss (.t 15) (.t 14)), none⟩])
  (.seq (.cond (.t 16)
    .skip
    (.exit 0))
  (.seq (.block 1 (.seq (.ops [⟨(some 17), (.mv (.t 15)), none⟩,
    ⟨(some 10), (.mv (.t 17)), none⟩])
  (.seq (.seq (.ops [⟨(some 18), (.mv (.t 1)), none⟩,
    ⟨(some 19), (.mv (.t 10)), none⟩,
    ⟨(some 20), (.bin .shr (.t 18) (.t 19)), none⟩,
    ⟨(some 21), (.bin .and (.t 20) (.k (I 1))), none⟩,
    ⟨(some 22), (.bin .eql (.t 21) (.k (I 0))), none⟩])
  (.cond (.t 22)
    (.exit 1)
    .skip))
  (.seq (.draw 0 [] (.early 1 ⟨(some 23), (.mv (.t 0)), none⟩
    (.early 1 ⟨(some 24), (.mv (.t 10)), none⟩
    (.early 1 ⟨(some 25), (.mv (.t 2)), none⟩
    (.early 1 ⟨(some 26), (.mv (.t 10)), none⟩
    (.early 1 ⟨(some 27), (.ixS 1 (.t 25) (.t 26)), none⟩
    (.early 1 ⟨(some 28), (.load false 1 (.t 27)), none⟩
    (.early 1 ⟨(some 29), (.call (.k (.fn (.func 61) [] [])) [(.t 23), (.t 24), (.t 28)]), none⟩
    (.early 1 ⟨(some 30), (.mv (.t 0)), none⟩
    (.early 1 ⟨(some 31), (.mv (.t 10)), none⟩
    (.early 1 ⟨(some 32), (.mv (.t 3)), none⟩
    (.early 1 ⟨(some 33), (.mv (.t 10)), none⟩
    (.early 1 ⟨(some 34), (.ixS 1 (.t 32) (.t 33)), none⟩
    (.early 1 ⟨(some 35), (.load false 1 (.t 34)), none⟩
    (.step 0 0 ⟨(some 36), (.call (.k (.fn (.func 61) [] [])) [(.t 30), (.t 31), (.t 35)]), none⟩
    (.early 0 ⟨(some 11), (.mv (.t 29)), none⟩
    (.early 0 ⟨(some 12), (.mv (.t 36)), none⟩
    .done)))))))))))))))))
  (.keep [0, 1, 2, 3, 8, 9, 11, 12, 14, 15] (.block 2 (.seq (.ops [⟨(some 38), (.mv (.t 11)), none⟩,
    ⟨(some 39), (.mv (.t 12)), none⟩,
    ⟨(some 40), (.bin .lss (.t 38) (.t 39)), none⟩,
    ⟨(some 37), (.mv (.t 40)), none⟩])
  (.cond (.t 37)
    (.ops [⟨(some 41), (.mv (.t 8)), none⟩,
      ⟨(some 42), (.bin .add (.t 41) (.k (I 1))), none⟩,
      ⟨(some 8), (.mv (.t 42)), none⟩])
    (.seq (.ops [⟨(some 44), (.mv (.t 11)), none⟩,
      ⟨(some 45), (.mv (.t 12)), none⟩,
      ⟨(some 46), (.bin .gtr (.t 44) (.t 45)), none⟩,
      ⟨(some 43), (.mv (.t 46)), none⟩])
    (.cond (.t 43)
      (.ops [⟨(some 47), (.mv (.t 9)), none⟩,
        ⟨(some 48), (.bin .add (.t 47) (.k (I 1))), none⟩,
        ⟨(some 9), (.mv (.t 48)), none⟩])
      .skip))))))))))
  (.ops [⟨(some 49), (.bin .add (.t 15) (.k (I 1))), none⟩,
    ⟨(some 15), (.mv (.t 49)), none⟩]))))
theorem w67L0 {x : Cx} {Q : QT} {ks : List Kont} {fr : Fr} {H : AHeap} {ms : List Nat} : W x Q c67L0 ks fr H ms = W x Q (.seq (.ops [⟨(some 16), (.bin .lss (.t 15) (.t 14)), none⟩])
    (.seq (.cond (.t 16)
      .skip
      (.exit 0))
    (.seq (.block 1 (.seq (.ops [⟨(some 17), (.mv (.t 15)), none⟩,
      ⟨(some 10), (.mv (.t 17)), none⟩])
    (.seq (.seq (.ops [⟨(some 18), (.mv (.t 1)), none⟩,
      ⟨(some 19), (.mv (.t 10)), none⟩,
      ⟨(some 20), (.bin .shr (.t 18) (.t 19)), none⟩,
      ⟨(some 21), (.bin .and (.t 20) (.k (I 1))), none⟩,
      ⟨(some 22), (.bin .eql (.t 21) (.k (I 0))), none⟩])
    (.cond (.t 22)
      (.exit 1)
      .skip))
    (.seq (.draw 0 [] (.early 1 ⟨(some 23), (.mv (.t 0)), none⟩
      (.early 1 ⟨(some 24), (.mv (.t 10)), none⟩
      (.early 1 ⟨(some 25), (.mv (.t 2)), none⟩
      (.early 1 ⟨(some 26), (.mv (.t 10)), none⟩
      (.early 1 ⟨(some 27), (.ixS 1 (.t 25) (.t 26)), none⟩
      (.early 1 ⟨(some 28), (.load false 1 (.t 27)), none⟩
      (.early 1 ⟨(some 29), (.call (.k (.fn (.func 61) [] [])) [(.t 23), (.t 24), (.t 28)]), none⟩
      (.early 1 ⟨(some 30), (.mv (.t 0)), none⟩
      (.early 1 ⟨(some 31), (.mv (.t 10)), none⟩
      (.early 1 ⟨(some 32), (.mv (.t 3)), none⟩
      (.early 1 ⟨(some 33), (.mv (.t 10)), none⟩
      (.early 1 ⟨(some 34), (.ixS 1 (.t 32) (.t 33)), none⟩
      (.early 1 ⟨(some 35), (.load false 1 (.t 34)), none⟩
      (.step 0 0 ⟨(some 36), (.call (.k (.fn (.func 61) [] [])) [(.t 30), (.t 31), (.t 35)]), none⟩
      (.early 0 ⟨(some 11), (.mv (.t 29)), none⟩
      (.early 0 ⟨(some 12), (.mv (.t 36)), none⟩
      .done)))))))))))))))))
    (.keep [0, 1, 2, 3, 8, 9, 11, 12, 14, 15] (.block 2 (.seq (.ops [⟨(some 38), (.mv (.t 11)), none⟩,
      ⟨(some 39), (.mv (.t 12)), none⟩,
      ⟨(some 40), (.bin .lss (.t 38) (.t 39)), none⟩,
      ⟨(some 37), (.mv (.t 40)), none⟩])
    (.cond (.t 37)
      (.ops [⟨(some 41), (.mv (.t 8)), none⟩,
        ⟨(some 42), (.bin .add (.t 41) (.k (I 1))), none⟩,
        ⟨(some 8), (.mv (.t 42)), none⟩])
      (.seq (.ops [⟨(some 44), (.mv (.t 11)), none⟩,
        ⟨(some 45), (.mv (.t 12)), none⟩,
        ⟨(some 46), (.bin .gtr (.t 44) (.t 45)), none⟩,
        ⟨(some 43), (.mv (.t 46)), none⟩])
      (.cond (.t 43)
        (.ops [⟨(some 47), (.mv (.t 9)), none⟩,
          ⟨(some 48), (.bin .add (.t 47) (.k (I 1))), none⟩,
          ⟨(some 9), (.mv (.t 48)), none⟩])
        .skip))))))))))
    (.ops [⟨(some 49), (.bin .add (.t 15) (.k (I 1))), none⟩,
      ⟨(some 15), (.mv (.t 49)), none⟩])))) ks fr H ms := rfl
def c67 : ICode :=
  (.seq (.ops [⟨(some 8), (.mv (.k (I 0))), none⟩,
    ⟨(some 9), (.mv (.k (I 0))), none⟩])
  (.seq (.seq (.ops [⟨(some 13), (.mv (.t 0)), none⟩,
    ⟨(some 14), (.len (.t 13)), none⟩,
    ⟨(some 15), (.mv (.k (I 0))), none⟩])
  (.block 0 (.loop c67L0)))
  c67T1))
theorem w67 {x : Cx} {Q : QT} {ks : List Kont} {fr : Fr} {H : AHeap} {ms : List Nat} : W x Q c67 ks fr H ms = W x Q (.seq (.ops [⟨(some 8), (.mv (.k (I 0))), none⟩,
      ⟨(some 9), (.mv (.k (I 0))), none⟩])
    (.seq (.seq (.ops [⟨(some 13), (.mv (.t 0)), none⟩,
      ⟨(some 14), (.len (.t 13)), none⟩,
      ⟨(some 15), (.mv (.k (I 0))), none⟩])
    (.block 0 (.loop c67L0)))
    c67T1)) ks fr H ms := rfl
def r67 : List IRes := [(.tmp 8), (.tmp 9)]
theorem t67 : Try.f67.body.bind (trCode Try.prog Try.f67.ntmps) = some (strip c67) := by kernel_rfl
theorem q67 : trRes Try.prog Try.f67.results.toList = some r67 := by kernel_rfl
theorem fn67 : Try.prog.funcs[67]? = some Try.f67 := by kernel_rfl
theorem nn67 : (Try.f67.name == "runtime.NumGoroutine") = false := by kernel_rfl
theorem nt67 : Try.f67.ntmps = 52 := by kernel_rfl
def c84R0a : ICode :=
  (.ops [⟨(some 9), (.mv (.t 16)), none⟩])
theorem w84R0a {x : Cx} {Q : QT} {ks : List Kont} {fr : Fr} {H : AHeap} {ms : List Nat} : W x Q c84R0a ks fr H ms = W x Q (.ops [⟨(some 9), (.mv (.t 16)), none⟩]) ks fr H ms := rfl
theorem t84R0a : trCode Try.prog 42 (asOf Try.f84 0) = some (strip c84R0a) := by kernel_rfl
def c84R0b : ICode :=
  (.block 1 (.seq (.ops [⟨(some 18), (.load false 1 (.t 4)), none⟩,
    ⟨(some 19), (.load false 1 (.t 5)), none⟩,
    ⟨(some 20), (.mv (.t 9)), none⟩,
    ⟨(some 21), (.load false 1 (.t 6)), none⟩,
    ⟨(some 22), (.call (.k (.fn (.func 67) [] [])) [(.t 18), (.t 19), (.t 20), (.t 21)]), none⟩,
    ⟨(some 17), (.mv (.t 22)), none⟩,
    ⟨(some 23), (.ext (.t 17) 0), none⟩,
    ⟨(some 24), (.ext (.t 17) 1), none⟩,
    ⟨(some 10), (.mv (.t 23)), none⟩,
    ⟨(some 11), (.mv (.t 24)), none⟩])
  (.seq (.ops [⟨(some 25), (.mv (.t 11)), none⟩,
    ⟨(some 26), (.bin .eql (.t 25) (.k (I 0))), none⟩,
    ⟨(some 27), (.mv (.t 26)), none⟩,
    ⟨(some 28), (.mv (.t 10)), (some (27, true))⟩,
    ⟨(some 29), (.bin .gtr (.t 28) (.k (I 0))), (some (27, true))⟩,
    ⟨(some 30), (.pick (.t 27) (.t 29) (.k (B false))), none⟩,
    ⟨(some 31), (.mv (.t 30)), none⟩,
    ⟨(some 32), (.load false 1 (.t 7)), (some (31, true))⟩,
    ⟨(some 33), (.un .not (.t 32)), (some (31, true))⟩,
    ⟨(some 34), (.mv (.t 33)), (some (31, true))⟩,
    ⟨(some 35), (.mv (.t 10)), (some (34, false))⟩,
    ⟨(some 36), (.load false 1 (.t 5)), (some (34, false))⟩,
    ⟨(some 37), (.conv .u64 (.t 36)), (some (34, false))⟩,
    ⟨(some 38), (.call (.k (.fn (.func 92) [] [])) [(.t 37)]), (some (34, false))⟩,
    ⟨(some 39), (.bin .eql (.t 35) (.t 38)), (some (34, false))⟩,
    ⟨(some 40), (.pick (.t 34) (.k (B true)) (.t 39)), (some (31, true))⟩,
    ⟨(some 41), (.pick (.t 31) (.t 40) (.k (B false))), none⟩])
  (.cond (.t 41)
    (.seq (.ops [⟨none, (.store 1 (.t 8) (.k (B true))), none⟩])
    .ret)
    .skip))))
theorem w84R0b {x : Cx} {Q : QT} {ks : List Kont} {fr : Fr} {H : AHeap} {ms : List Nat} : W x Q c84R0b ks fr H ms = W x Q (.block 1 (.seq (.ops [⟨(some 18), (.load false 1 (.t 4)), none⟩,
      ⟨(some 19), (.load false 1 (.t 5)), none⟩,
      ⟨(some 20), (.mv (.t 9)), none⟩,
      ⟨(some 21), (.load false 1 (.t 6)), none⟩,
      ⟨(some 22), (.call (.k (.fn (.func 67) [] [])) [(.t 18), (.t 19), (.t 20), (.t 21)]), none⟩,
      ⟨(some 17), (.mv (.t 22)), none⟩,
      ⟨(some 23), (.ext (.t 17) 0), none⟩,
      ⟨(some 24), (.ext (.t 17) 1), none⟩,
      ⟨(some 10), (.mv (.t 23)), none⟩,
      ⟨(some 11), (.mv (.t 24)), none⟩])
    (.seq (.ops [⟨(some 25), (.mv (.t 11)), none⟩,
      ⟨(some 26), (.bin .eql (.t 25) (.k (I 0))), none⟩,
      ⟨(some 27), (.mv (.t 26)), none⟩,
      ⟨(some 28), (.mv (.t 10)), (some (27, true))⟩,
      ⟨(some 29), (.bin .gtr (.t 28) (.k (I 0))), (some (27, true))⟩,
      ⟨(some 30), (.pick (.t 27) (.t 29) (.k (B false))), none⟩,
      ⟨(some 31), (.mv (.t 30)), none⟩,
      ⟨(some 32), (.load false 1 (.t 7)), (some (31, true))⟩,
      ⟨(some 33), (.un .not (.t 32)), (some (31, true))⟩,
      ⟨(some 34), (.mv (.t 33)), (some (31, true))⟩,
      ⟨(some 35), (.mv (.t 10)), (some (34, false))⟩,
      ⟨(some 36), (.load false 1 (.t 5)), (some (34, false))⟩,
      ⟨(some 37), (.conv .u64 (.t 36)), (some (34, false))⟩,
      ⟨(some 38), (.call (.k (.fn (.func 92) [] [])) [(.t 37)]), (some (34, false))⟩,
      ⟨(some 39), (.bin .eql (.t 35) (.t 38)), (some (34, false))⟩,
      ⟨(some 40), (.pick (.t 34) (.k (B true)) (.t 39)), (some (31, true))⟩,
      ⟨(some 41), (.pick (.t 31) (.t 40) (.k (B false))), none⟩])
    (.cond (.t 41)
      (.seq (.ops [⟨none, (.store 1 (.t 8) (.k (B true))), none⟩])
      .ret)
      .skip)))) ks fr H ms := rfl
theorem t84R0b : trCode Try.prog 42 (bdOf Try.f84 0) = some (strip c84R0b) := by kernel_rfl
def c84T0 : ICode :=
  (.seq (.ops [⟨none, (.store 1 (.t 8) (.k (B false))), none⟩])
  .ret)
theorem w84T0 {x : Cx} {Q : QT} {ks : List Kont} {fr : Fr} {H : AHeap} {ms : List Nat} : W x Q c84T0 ks fr H ms = W x Q (.seq (.ops [⟨none, (.store 1 (.t 8) (.k (B false))), none⟩])
    .ret) ks fr H ms := rfl
noncomputable def c84 : ICode :=
  (.seq (.ops [⟨(some 4), (.box (.t 0)), none⟩,
    ⟨(some 5), (.box (.t 1)), none⟩,
    ⟨(some 6), (.box (.t 2)), none⟩,
    ⟨(some 7), (.box (.t 3)), none⟩,
    ⟨(some 8), (.alloc [(B false)]), none⟩])
  (.seq (.seq (.ops [⟨(some 12), (.load false 1 (.t 4)), none⟩,
    ⟨(some 13), (.len (.t 12)), none⟩,
    ⟨(some 14), (.load false 1 (.t 5)), none⟩,
    ⟨(some 15), (.call (.k (.fn (.func 63) [] [])) [(.t 13), (.t 14)]), none⟩])
  (.block 0 (.range (.t 15) [16] (asOf Try.f84 0) (bdOf Try.f84 0))))
  c84T0))
theorem w84 {x : Cx} {Q : QT} {ks : List Kont} {fr : Fr} {H : AHeap} {ms : List Nat} : W x Q c84 ks fr H ms = W x Q (.seq (.ops [⟨(some 4), (.box (.t 0)), none⟩,
      ⟨(some 5), (.box (.t 1)), none⟩,
      ⟨(some 6), (.box (.t 2)), none⟩,
      ⟨(some 7), (.box (.t 3)), none⟩,
      ⟨(some 8), (.alloc [(B false)]), none⟩])
    (.seq (.seq (.ops [⟨(some 12), (.load false 1 (.t 4)), none⟩,
      ⟨(some 13), (.len (.t 12)), none⟩,
      ⟨(some 14), (.load false 1 (.t 5)), none⟩,
      ⟨(some 15), (.call (.k (.fn (.func 63) [] [])) [(.t 13), (.t 14)]), none⟩])
    (.block 0 (.range (.t 15) [16] (asOf Try.f84 0) (bdOf Try.f84 0))))
    c84T0)) ks fr H ms := rfl
def r84 : List IRes := [(.cell false 1 8)]
theorem t84 : Try.f84.body.bind (trCode Try.prog Try.f84.ntmps) = some (strip c84) := by kernel_rfl
theorem q84 : trRes Try.prog Try.f84.results.toList = some r84 := by kernel_rfl
theorem fn84 : Try.prog.funcs[84]? = some Try.f84 := by kernel_rfl
theorem nn84 : (Try.f84.name == "runtime.NumGoroutine") = false := by kernel_rfl
theorem nt84 : Try.f84.ntmps = 42 := by kernel_rfl
def c92 : ICode :=
  (.seq (.ops [⟨(some 2), (.mv (.k (I 0))), none⟩])
  (.seq (.cond (.k (B false))
    (.seq (.ops [⟨(some 3), (.mv (.t 0)), none⟩,
      ⟨(some 4), (.conv .u32 (.t 3)), none⟩,
      ⟨(some 5), (.call (.k (.fn (.func 95) [] [])) [(.t 4)]), none⟩,
      ⟨(some 2), (.mv (.t 5)), none⟩])
    .ret)
    .skip)
  (.seq (.ops [⟨(some 6), (.mv (.t 0)), none⟩,
    ⟨(some 7), (.call (.k (.fn (.func 96) [] [])) [(.t 6)]), none⟩,
    ⟨(some 2), (.mv (.t 7)), none⟩])
  .ret)))
theorem w92 {x : Cx} {Q : QT} {ks : List Kont} {fr : Fr} {H : AHeap} {ms : List Nat} : W x Q c92 ks fr H ms = W x Q (.seq (.ops [⟨(some 2), (.mv (.k (I 0))), none⟩])
    (.seq (.cond (.k (B false))
      (.seq (.ops [⟨(some 3), (.mv (.t 0)), none⟩,
        ⟨(some 4), (.conv .u32 (.t 3)), none⟩,
        ⟨(some 5), (.call (.k (.fn (.func 95) [] [])) [(.t 4)]), none⟩,
        ⟨(some 2), (.mv (.t 5)), none⟩])
      .ret)
      .skip)
    (.seq (.ops [⟨(some 6), (.mv (.t 0)), none⟩,
      ⟨(some 7), (.call (.k (.fn (.func 96) [] [])) [(.t 6)]), none⟩,
      ⟨(some 2), (.mv (.t 7)), none⟩])
    .ret))) ks fr H ms := rfl
def r92 : List IRes := [(.tmp 2)]
theorem t92 : Try.f92.body.bind (trCode Try.prog Try.f92.ntmps) = some (strip c92) := by kernel_rfl
theorem q92 : trRes Try.prog Try.f92.results.toList = some r92 := by kernel_rfl
theorem fn92 : Try.prog.funcs[92]? = some Try.f92 := by kernel_rfl
theorem nn92 : (Try.f92.name == "runtime.NumGoroutine") = false := by kernel_rfl
theorem nt92 : Try.f92.ntmps = 8 := by kernel_rfl
def c96 : ICode :=
  (.seq (.ops [⟨(some 2), (.mv (.k (I 0))), none⟩])
  (.seq (.ops [⟨(some 3), (.mv (.t 0)), none⟩,
    ⟨(some 4), (.bin .shr (.t 3) (.k (.val (.int .u64 1)))), none⟩,
    ⟨(some 5), (.bin .and (.t 4) (.k (.val (.int .u64 6148914691236517205)))), none⟩,
    ⟨(some 6), (.mv (.t 0)), none⟩,
    ⟨(some 7), (.bin .and (.t 6) (.k (.val (.int .u64 6148914691236517205)))), none⟩,
    ⟨(some 8), (.bin .add (.t 5) (.t 7)), none⟩,
    ⟨(some 0), (.mv (.t 8)), none⟩])
  (.seq (.ops [⟨(some 9), (.mv (.t 0)), none⟩,
    ⟨(some 10), (.bin .shr (.t 9) (.k (.val (.int .u64 2)))), none⟩,
    ⟨(some 11), (.bin .and (.t 10) (.k (.val (.int .u64 3689348814741910323)))), none⟩,
    ⟨(some 12), (.mv (.t 0)), none⟩,
    ⟨(some 13), (.bin .and (.t 12) (.k (.val (.int .u64 3689348814741910323)))), none⟩,
    ⟨(some 14), (.bin .add (.t 11) (.t 13)), none⟩,
    ⟨(some 0), (.mv (.t 14)), none⟩])
  (.seq (.ops [⟨(some 15), (.mv (.t 0)), none⟩,
    ⟨(some 16), (.bin .shr (.t 15) (.k (.val (.int .u64 4)))), none⟩,
    ⟨(some 17), (.mv (.t 0)), none⟩,
    ⟨(some 18), (.bin .add (.t 16) (.t 17)), none⟩,
    ⟨(some 19), (.bin .and (.t 18) (.k (.val (.int .u64 1085102592571150095)))), none⟩,
    ⟨(some 0), (.mv (.t 19)), none⟩])
  (.seq (.ops [⟨(some 20), (.mv (.t 0)), none⟩,
    ⟨(some 21), (.mv (.t 0)), none⟩,
    ⟨(some 22), (.bin .shr (.t 21) (.k (.val (.int .u64 8)))), none⟩,
    ⟨(some 23), (.bin .add (.t 20) (.t 22)), none⟩,
    ⟨(some 0), (.mv (.t 23)), none⟩])
  (.seq (.ops [⟨(some 24), (.mv (.t 0)), none⟩,
    ⟨(some 25), (.mv (.t 0)), none⟩,
    ⟨(some 26), (.bin .shr (.t 25) (.k (.val (.int .u64 16)))), none⟩,
    ⟨(some 27), (.bin .add (.t 24) (.t 26)), none⟩,
    ⟨(some 0), (.mv (.t 27)), none⟩])
  (.seq (.ops [⟨(some 28), (.mv (.t 0)), none⟩,
    ⟨(some 29), (.mv (.t 0)), none⟩,
    ⟨(some 30), (.bin .shr (.t 29) (.k (.val (.int .u64 32)))), none⟩,
    ⟨(some 31), (.bin .add (.t 28) (.t 30)), none⟩,
    ⟨(some 0), (.mv (.t 31)), none⟩])
  (.seq (.ops [⟨(some 32), (.mv (.t 0)), none⟩,
    ⟨(some 33), (.conv .i64 (.t 32)), none⟩,
    ⟨(some 34), (.bin .and (.t 33) (.k (I 127))), none⟩,
    ⟨(some 2), (.mv (.t 34)), none⟩])
  .ret))))))))
theorem w96 {x : Cx} {Q : QT} {ks : List Kont} {fr : Fr} {H : AHeap} {ms : List Nat} : W x Q c96 ks fr H ms = W x Q (.seq (.ops [⟨(some 2), (.mv (.k (I 0))), none⟩])
    (.seq (.ops [⟨(some 3), (.mv (.t 0)), none⟩,
      ⟨(some 4), (.bin .shr (.t 3) (.k (.val (.int .u64 1)))), none⟩,
      ⟨(some 5), (.bin .and (.t 4) (.k (.val (.int .u64 6148914691236517205)))), none⟩,
      ⟨(some 6), (.mv (.t 0)), none⟩,
      ⟨(some 7), (.bin .and (.t 6) (.k (.val (.int .u64 6148914691236517205)))), none⟩,
      ⟨(some 8), (.bin .add (.t 5) (.t 7)), none⟩,
      ⟨(some 0), (.mv (.t 8)), none⟩])
    (.seq (.ops [⟨(some 9), (.mv (.t 0)), none⟩,
      ⟨(some 10), (.bin .shr (.t 9) (.k (.val (.int .u64 2)))), none⟩,
      ⟨(some 11), (.bin .and (.t 10) (.k (.val (.int .u64 3689348814741910323)))), none⟩,
      ⟨(some 12), (.mv (.t 0)), none⟩,
      ⟨(some 13), (.bin .and (.t 12) (.k (.val (.int .u64 3689348814741910323)))), none⟩,
      ⟨(some 14), (.bin .add (.t 11) (.t 13)), none⟩,
      ⟨(some 0), (.mv (.t 14)), none⟩])
    (.seq (.ops [⟨(some 15), (.mv (.t 0)), none⟩,
      ⟨(some 16), (.bin .shr (.t 15) (.k (.val (.int .u64 4)))), none⟩,
      ⟨(some 17), (.mv (.t 0)), none⟩,
      ⟨(some 18), (.bin .add (.t 16) (.t 17)), none⟩,
      ⟨(some 19), (.bin .and (.t 18) (.k (.val (.int .u64 1085102592571150095)))), none⟩,
      ⟨(some 0), (.mv (.t 19)), none⟩])
    (.seq (.ops [⟨(some 20), (.mv (.t 0)), none⟩,
      ⟨(some 21), (.mv (.t 0)), none⟩,
      ⟨(some 22), (.bin .shr (.t 21) (.k (.val (.int .u64 8)))), none⟩,
      ⟨(some 23), (.bin .add (.t 20) (.t 22)), none⟩,
      ⟨(some 0), (.mv (.t 23)), none⟩])
    (.seq (.ops [⟨(some 24), (.mv (.t 0)), none⟩,
      ⟨(some 25), (.mv (.t 0)), none⟩,
      ⟨(some 26), (.bin .shr (.t 25) (.k (.val (.int .u64 16)))), none⟩,
      ⟨(some 27), (.bin .add (.t 24) (.t 26)), none⟩,
      ⟨(some 0), (.mv (.t 27)), none⟩])
    (.seq (.ops [⟨(some 28), (.mv (.t 0)), none⟩,
      ⟨(some 29), (.mv (.t 0)), none⟩,
      ⟨(some 30), (.bin .shr (.t 29) (.k (.val (.int .u64 32)))), none⟩,
      ⟨(some 31), (.bin .add (.t 28) (.t 30)), none⟩,
      ⟨(some 0), (.mv (.t 31)), none⟩])
    (.seq (.ops [⟨(some 32), (.mv (.t 0)), none⟩,
      ⟨(some 33), (.conv .i64 (.t 32)), none⟩,
      ⟨(some 34), (.bin .and (.t 33) (.k (I 127))), none⟩,
      ⟨(some 2), (.mv (.t 34)), none⟩])
    .ret)))))))) ks fr H ms := rfl
def r96 : List IRes := [(.tmp 2)]
theorem t96 : Try.f96.body.bind (trCode Try.prog Try.f96.ntmps) = some (strip c96) := by kernel_rfl
theorem q96 : trRes Try.prog Try.f96.results.toList = some r96 := by kernel_rfl
theorem fn96 : Try.prog.funcs[96]? = some Try.f96 := by kernel_rfl
theorem nn96 : (Try.f96.name == "runtime.NumGoroutine") = false := by kernel_rfl
theorem nt96 : Try.f96.ntmps = 35 := by kernel_rfl
def c40 : ICode :=
  (.seq (.ops [⟨(some 4), (.mv (.k (I 0))), none⟩,
    ⟨(some 5), (.mv (.k (I 0))), none⟩])
  (.seq (.ops [⟨(some 6), (.mv (.t 0)), none⟩,
    ⟨(some 7), (.mv (.t 1)), none⟩,
    ⟨(some 8), (.call (.k (.fn (.func 68) [] [])) [(.t 6), (.t 7), (.k (B false))]), none⟩,
    ⟨(some 9), (.ext (.t 8) 0), none⟩,
    ⟨(some 10), (.ext (.t 8) 1), none⟩,
    ⟨(some 4), (.mv (.t 9)), none⟩,
    ⟨(some 5), (.mv (.t 10)), none⟩])
  .ret))
theorem w40 {x : Cx} {Q : QT} {ks : List Kont} {fr : Fr} {H : AHeap} {ms : List Nat} : W x Q c40 ks fr H ms = W x Q (.seq (.ops [⟨(some 4), (.mv (.k (I 0))), none⟩,
      ⟨(some 5), (.mv (.k (I 0))), none⟩])
    (.seq (.ops [⟨(some 6), (.mv (.t 0)), none⟩,
      ⟨(some 7), (.mv (.t 1)), none⟩,
      ⟨(some 8), (.call (.k (.fn (.func 68) [] [])) [(.t 6), (.t 7), (.k (B false))]), none⟩,
      ⟨(some 9), (.ext (.t 8) 0), none⟩,
      ⟨(some 10), (.ext (.t 8) 1), none⟩,
      ⟨(some 4), (.mv (.t 9)), none⟩,
      ⟨(some 5), (.mv (.t 10)), none⟩])
    .ret)) ks fr H ms := rfl
def r40 : List IRes := [(.tmp 4), (.tmp 5)]
theorem t40 : Try.f40.body.bind (trCode Try.prog Try.f40.ntmps) = some (strip c40) := by kernel_rfl
theorem q40 : trRes Try.prog Try.f40.results.toList = some r40 := by kernel_rfl
theorem fn40 : Try.prog.funcs[40]? = some Try.f40 := by kernel_rfl
theorem nn40 : (Try.f40.name == "runtime.NumGoroutine") = false := by kernel_rfl
theorem nt40 : Try.f40.ntmps = 11 := by kernel_rfl
def c41 : ICode :=
  (.seq (.ops [⟨(some 4), (.mv (.k (I 0))), none⟩,
    ⟨(some 5), (.mv (.k (I 0))), none⟩])
  (.seq (.ops [⟨(some 6), (.mv (.t 0)), none⟩,
    ⟨(some 7), (.mv (.t 1)), none⟩,
    ⟨(some 8), (.call (.k (.fn (.func 68) [] [])) [(.t 6), (.t 7), (.k (B true))]), none⟩,
    ⟨(some 9), (.ext (.t 8) 0), none⟩,
    ⟨(some 10), (.ext (.t 8) 1), none⟩,
    ⟨(some 4), (.mv (.t 9)), none⟩,
    ⟨(some 5), (.mv (.t 10)), none⟩])
  .ret))
theorem w41 {x : Cx} {Q : QT} {ks : List Kont} {fr : Fr} {H : AHeap} {ms : List Nat} : W x Q c41 ks fr H ms = W x Q (.seq (.ops [⟨(some 4), (.mv (.k (I 0))), none⟩,
      ⟨(some 5), (.mv (.k (I 0))), none⟩])
    (.seq (.ops [⟨(some 6), (.mv (.t 0)), none⟩,
      ⟨(some 7), (.mv (.t 1)), none⟩,
      ⟨(some 8), (.call (.k (.fn (.func 68) [] [])) [(.t 6), (.t 7), (.k (B true))]), none⟩,
      ⟨(some 9), (.ext (.t 8) 0), none⟩,
      ⟨(some 10), (.ext (.t 8) 1), none⟩,
      ⟨(some 4), (.mv (.t 9)), none⟩,
      ⟨(some 5), (.mv (.t 10)), none⟩])
    .ret)) ks fr H ms := rfl
def r41 : List IRes := [(.tmp 4), (.tmp 5)]
theorem t41 : Try.f41.body.bind (trCode Try.prog Try.f41.ntmps) = some (strip c41) := by kernel_rfl
theorem q41 : trRes Try.prog Try.f41.results.toList = some r41 := by kernel_rfl
theorem fn41 : Try.prog.funcs[41]? = some Try.f41 := by kernel_rfl
theorem nn41 : (Try.f41.name == "runtime.NumGoroutine") = false := by kernel_rfl
theorem nt41 : Try.f41.ntmps = 11 := by kernel_rfl
def c42T4 : ICode :=
  (.keep [] (.seq (.ops [⟨(some 4), (.mv (.k nilSl)), none⟩,
    ⟨(some 5), (.mv (.k (I 4))), none⟩])
  .ret))
theorem w42T4 {x : Cx} {Q : QT} {ks : List Kont} {fr : Fr} {H : AHeap} {ms : List Nat} : W x Q c42T4 ks fr H ms = W x Q (.keep [] (.seq (.ops [⟨(some 4), (.mv (.k nilSl)), none⟩,
      ⟨(some 5), (.mv (.k (I 4))), none⟩])
    .ret)) ks fr H ms := rfl
def c42T3 : ICode :=
  (.keep [0, 1, 16, 17, 18] (.ops [⟨(some 58), (.bin .add (.t 18) (.k (I 1))), none⟩,
    ⟨(some 18), (.mv (.t 58)), none⟩]))
theorem w42T3 {x : Cx} {Q : QT} {ks : List Kont} {fr : Fr} {H : AHeap} {ms : List Nat} : W x Q c42T3 ks fr H ms = W x Q (.keep [0, 1, 16, 17, 18] (.ops [⟨(some 58), (.bin .add (.t 18) (.k (I 1))), none⟩,
      ⟨(some 18), (.mv (.t 58)), none⟩])) ks fr H ms := rfl
def c42T2 : ICode :=
  (.keep [0, 1, 7, 8, 9, 16, 17, 18] (.seq (.ops [⟨(some 53), (.mv (.t 8)), none⟩,
    ⟨(some 54), (.mv (.t 53)), none⟩,
    ⟨(some 55), (.mv (.t 9)), (some (54, true))⟩,
    ⟨(some 56), (.pick (.t 54) (.t 55) (.k (B false))), none⟩])
  (.cond (.t 56)
    (.seq (.ops [⟨(some 57), (.mv (.t 7)), none⟩,
      ⟨(some 4), (.mv (.t 57)), none⟩,
      ⟨(some 5), (.mv (.k (I 0))), none⟩])
    .ret)
    .skip)))
theorem w42T2 {x : Cx} {Q : QT} {ks : List Kont} {fr : Fr} {H : AHeap} {ms : List Nat} : W x Q c42T2 ks fr H ms = W x Q (.keep [0, 1, 7, 8, 9, 16, 17, 18] (.seq (.ops [⟨(some 53), (.mv (.t 8)), none⟩,
      ⟨(some 54), (.mv (.t 53)), none⟩,
      ⟨(some 55), (.mv (.t 9)), (some (54, true))⟩,
      ⟨(some 56), (.pick (.t 54) (.t 55) (.k (B false))), none⟩])
    (.cond (.t 56)
      (.seq (.ops [⟨(some 57), (.mv (.t 7)), none⟩,
        ⟨(some 4), (.mv (.t 57)), none⟩,
        ⟨(some 5), (.mv (.k (I 0))), none⟩])
      .ret)
      .skip))) ks fr H ms := rfl
/- live: [0, 1, 7, 8, 9, 16, 17, 18, 22, 23, 24] -/
def c42L1 : ICode :=
  (.seq (.ops [⟨(some 25), (.bin .lss (.t 24) (.t 23)), none⟩])
  (.seq (.cond (.t 25)
    .skip
    (.exit 2))
  (.seq (.block 3 (.seq (.ops [⟨(some 26), (.mv (.t 24)), none⟩,
    ⟨(some 27), (.ixS 1 (.t 22) (.t 24)), none⟩,
    ⟨(some 28), (.load false 1 (.t 27)), none⟩,
    ⟨(some 10), (.mv (.t 26)), none⟩,
    ⟨(some 11), (.mv (.t 28)), none⟩])
  (.seq (.draw 0 [] (.early 1 ⟨(some 29), (.mv (.t 0)), none⟩
    (.early 1 ⟨(some 30), (.mv (.t 10)), none⟩
    (.early 1 ⟨(some 31), (.mv (.t 11)), none⟩
    (.early 1 ⟨(some 32), (.call (.k (.fn (.func 24) [] [])) [(.t 29), (.t 30), (.t 31)]), none⟩
    (.early 1 ⟨(some 33), (.mv (.t 0)), none⟩
    (.early 1 ⟨(some 34), (.mv (.t 10)), none⟩
    (.early 1 ⟨(some 35), (.mv (.t 1)), none⟩
    (.early 1 ⟨(some 36), (.mv (.t 10)), none⟩
    (.early 1 ⟨(some 37), (.ixS 1 (.t 35) (.t 36)), none⟩
    (.early 1 ⟨(some 38), (.load false 1 (.t 37)), none⟩
    (.step 0 0 ⟨(some 39), (.call (.k (.fn (.func 24) [] [])) [(.t 33), (.t 34), (.t 38)]), none⟩
    (.early 0 ⟨(some 12), (.mv (.t 32)), none⟩
    (.early 0 ⟨(some 13), (.mv (.t 39)), none⟩
    .done))))))))))))))
  (.keep [0, 1, 7, 8, 9, 12, 13, 16, 17, 18, 22, 23, 24] (.seq (.ops [⟨(some 40), (.mv (.t 8)), none⟩,
    ⟨(some 41), (.mv (.t 40)), none⟩,
    ⟨(some 42), (.mv (.t 12)), (some (41, true))⟩,
    ⟨(some 43), (.mv (.t 13)), (some (41, true))⟩,
    ⟨(some 44), (.bin .leq (.t 42) (.t 43)), (some (41, true))⟩,
    ⟨(some 45), (.pick (.t 41) (.t 44) (.k (B false))), none⟩,
    ⟨(some 8), (.mv (.t 45)), none⟩])
  (.ops [⟨(some 46), (.mv (.t 9)), none⟩,
    ⟨(some 47), (.mv (.t 46)), none⟩,
    ⟨(some 48), (.mv (.t 12)), (some (47, false))⟩,
    ⟨(some 49), (.mv (.t 13)), (some (47, false))⟩,
    ⟨(some 50), (.bin .lss (.t 48) (.t 49)), (some (47, false))⟩,
    ⟨(some 51), (.pick (.t 47) (.k (B true)) (.t 50)), none⟩,
    ⟨(some 9), (.mv (.t 51)), none⟩]))))))
  (.ops [⟨(some 52), (.bin .add (.t 24) (.k (I 1))), none⟩,
    ⟨(some 24), (.mv (.t 52)), none⟩]))))
theorem w42L1 {x : Cx} {Q : QT} {ks : List Kont} {fr : Fr} {H : AHeap} {ms : List Nat} : W x Q c42L1 ks fr H ms = W x Q (.seq (.ops [⟨(some 25), (.bin .lss (.t 24) (.t 23)), none⟩])
    (.seq (.cond (.t 25)
      .skip
      (.exit 2))
    (.seq (.block 3 (.seq (.ops [⟨(some 26), (.mv (.t 24)), none⟩,
      ⟨(some 27), (.ixS 1 (.t 22) (.t 24)), none⟩,
      ⟨(some 28), (.load false 1 (.t 27)), none⟩,
      ⟨(some 10), (.mv (.t 26)), none⟩,
      ⟨(some 11), (.mv (.t 28)), none⟩])
    (.seq (.draw 0 [] (.early 1 ⟨(some 29), (.mv (.t 0)), none⟩
      (.early 1 ⟨(some 30), (.mv (.t 10)), none⟩
      (.early 1 ⟨(some 31), (.mv (.t 11)), none⟩
      (.early 1 ⟨(some 32), (.call (.k (.fn (.func 24) [] [])) [(.t 29), (.t 30), (.t 31)]), none⟩
      (.early 1 ⟨(some 33), (.mv (.t 0)), none⟩
      (.early 1 ⟨(some 34), (.mv (.t 10)), none⟩
      (.early 1 ⟨(some 35), (.mv (.t 1)), none⟩
      (.early 1 ⟨(some 36), (.mv (.t 10)), none⟩
      (.early 1 ⟨(some 37), (.ixS 1 (.t 35) (.t 36)), none⟩
      (.early 1 ⟨(some 38), (.load false 1 (.t 37)), none⟩
      (.step 0 0 ⟨(some 39), (.call (.k (.fn (.func 24) [] [])) [(.t 33), (.t 34), (.t 38)]), none⟩
      (.early 0 ⟨(some 12), (.mv (.t 32)), none⟩
      (.early 0 ⟨(some 13), (.mv (.t 39)), none⟩
      .done))))))))))))))
    (.keep [0, 1, 7, 8, 9, 12, 13, 16, 17, 18, 22, 23, 24] (.seq (.ops [⟨(some 40), (.mv (.t 8)), none⟩,
      ⟨(some 41), (.mv (.t 40)), none⟩,
      ⟨(some 42), (.mv (.t 12)), (some (41, true))⟩,
      ⟨(some 43), (.mv (.t 13)), (some (41, true))⟩,
      ⟨(some 44), (.bin .leq (.t 42) (.t 43)), (some (41, true))⟩,
      ⟨(some 45), (.pick (.t 41) (.t 44) (.k (B false))), none⟩,
      ⟨(some 8), (.mv (.t 45)), none⟩])
    (.ops [⟨(some 46), (.mv (.t 9)), none⟩,
      ⟨(some 47), (.mv (.t 46)), none⟩,
      ⟨(some 48), (.mv (.t 12)), (some (47, false))⟩,
      ⟨(some 49), (.mv (.t 13)), (some (47, false))⟩,
      ⟨(some 50), (.bin .lss (.t 48) (.t 49)), (some (47, false))⟩,
      ⟨(some 51), (.pick (.t 47) (.k (B true)) (.t 50)), none⟩,
      ⟨(some 9), (.mv (.t 51)), none⟩]))))))
    (.ops [⟨(some 52), (.bin .add (.t 24) (.k (I 1))), none⟩,
      ⟨(some 24), (.mv (.t 52)), none⟩])))) ks fr H ms := rfl
/- live: [0, 1, 16, 17, 18] -/
def c42L0 : ICode :=
  (.seq (.ops [⟨(some 19), (.bin .lss (.t 18) (.t 17)), none⟩])
  (.seq (.cond (.t 19)
    .skip
    (.exit 0))
  (.seq (.block 1 (.seq (.ops [⟨(some 20), (.ixS 1 (.t 16) (.t 18)), none⟩,
    ⟨(some 21), (.load false 1 (.t 20)), none⟩,
    ⟨(some 7), (.mv (.t 21)), none⟩])
  (.seq (.ops [⟨(some 8), (.mv (.k (B true))), none⟩,
    ⟨(some 9), (.mv (.k (B false))), none⟩])
  (.seq (.seq (.ops [⟨(some 22), (.mv (.t 7)), none⟩,
    ⟨(some 23), (.len (.t 22)), none⟩,
    ⟨(some 24), (.mv (.k (I 0))), none⟩])
  (.block 2 (.loop c42L1)))
  c42T2))))
  c42T3)))
theorem w42L0 {x : Cx} {Q : QT} {ks : List Kont} {fr : Fr} {H : AHeap} {ms : List Nat} : W x Q c42L0 ks fr H ms = W x Q (.seq (.ops [⟨(some 19), (.bin .lss (.t 18) (.t 17)), none⟩])
    (.seq (.cond (.t 19)
      .skip
      (.exit 0))
    (.seq (.block 1 (.seq (.ops [⟨(some 20), (.ixS 1 (.t 16) (.t 18)), none⟩,
      ⟨(some 21), (.load false 1 (.t 20)), none⟩,
      ⟨(some 7), (.mv (.t 21)), none⟩])
    (.seq (.ops [⟨(some 8), (.mv (.k (B true))), none⟩,
      ⟨(some 9), (.mv (.k (B false))), none⟩])
    (.seq (.seq (.ops [⟨(some 22), (.mv (.t 7)), none⟩,
      ⟨(some 23), (.len (.t 22)), none⟩,
      ⟨(some 24), (.mv (.k (I 0))), none⟩])
    (.block 2 (.loop c42L1)))
    c42T2))))
    c42T3))) ks fr H ms := rfl
def c42 : ICode :=
  (.seq (.ops [⟨(some 4), (.mv (.k nilSl)), none⟩,
    ⟨(some 5), (.mv (.k (I 0))), none⟩])
  (.seq (.seq (.ops [⟨(some 14), (.mv (.t 0)), none⟩,
    ⟨(some 15), (.len (.t 14)), none⟩,
    ⟨(some 16), (.call (.k (.fn (.func 64) [] [])) [(.t 15), (.k nilSl)]), none⟩,
    ⟨(some 17), (.len (.t 16)), none⟩,
    ⟨(some 18), (.mv (.k (I 0))), none⟩])
  (.block 0 (.loop c42L0)))
  c42T4))
theorem w42 {x : Cx} {Q : QT} {ks : List Kont} {fr : Fr} {H : AHeap} {ms : List Nat} : W x Q c42 ks fr H ms = W x Q (.seq (.ops [⟨(some 4), (.mv (.k nilSl)), none⟩,
      ⟨(some 5), (.mv (.k (I 0))), none⟩])
    (.seq (.seq (.ops [⟨(some 14), (.mv (.t 0)), none⟩,
      ⟨(some 15), (.len (.t 14)), none⟩,
      ⟨(some 16), (.call (.k (.fn (.func 64) [] [])) [(.t 15), (.k nilSl)]), none⟩,
      ⟨(some 17), (.len (.t 16)), none⟩,
      ⟨(some 18), (.mv (.k (I 0))), none⟩])
    (.block 0 (.loop c42L0)))
    c42T4)) ks fr H ms := rfl
def r42 : List IRes := [(.tmp 4), (.tmp 5)]
theorem t42 : Try.f42.body.bind (trCode Try.prog Try.f42.ntmps) = some (strip c42) := by kernel_rfl
theorem q42 : trRes Try.prog Try.f42.results.toList = some r42 := by kernel_rfl
theorem fn42 : Try.prog.funcs[42]? = some Try.f42 := by kernel_rfl
theorem nn42 : (Try.f42.name == "runtime.NumGoroutine") = false := by kernel_rfl
theorem nt42 : Try.f42.ntmps = 59 := by kernel_rfl
def c68T1 : ICode :=
  (.keep [] (.seq (.ops [⟨(some 6), (.mv (.k (I 0))), none⟩,
    ⟨(some 7), (.mv (.k (I 4))), none⟩])
  .ret))
theorem w68T1 {x : Cx} {Q : QT} {ks : List Kont} {fr : Fr} {H : AHeap} {ms : List Nat} : W x Q c68T1 ks fr H ms = W x Q (.keep [] (.seq (.ops [⟨(some 6), (.mv (.k (I 0))), none⟩,
      ⟨(some 7), (.mv (.k (I 4))), none⟩])
    .ret)) ks fr H ms := rfl
/- live: [0, 1, 2, 8] -/
def c68L0 : ICode :=
  (.seq (.seq (.ops [⟨(some 9), (.mv (.t 8)), none⟩,
    ⟨(some 10), (.mv (.t 0)), none⟩,
    ⟨(some 11), (.len (.t 10)), none⟩,
    ⟨(some 12), (.bin .shl (.k (I 1)) (.t 11)), none⟩,
    ⟨(some 13), (.bin .lss (.t 9) (.t 12)), none⟩])
  (.cond (.t 13)
    .skip
    (.exit 0)))
  (.seq (.block 1 (.seq (.ops [⟨(some 16), (.mv (.t 0)), none⟩,
    ⟨(some 17), (.mv (.t 1)), none⟩,
    ⟨(some 18), (.mv (.t 8)), none⟩,
    ⟨(some 19), (.mv (.t 8)), none⟩,
    ⟨(some 20), (.mv (.t 2)), none⟩,
    ⟨(some 21), (.call (.k (.fn (.func 85) [] [])) [(.t 16), (.t 17), (.t 18), (.t 19), (.k (I 0)), (.k (B false)), (.t 20)]), none⟩])
  (.cond (.t 21)
    (.seq (.ops [⟨(some 22), (.mv (.t 8)), none⟩,
      ⟨(some 6), (.mv (.t 22)), none⟩,
      ⟨(some 7), (.mv (.k (I 0))), none⟩])
    .ret)
    .skip)))
  (.ops [⟨(some 14), (.mv (.t 8)), none⟩,
    ⟨(some 15), (.bin .add (.t 14) (.k (I 1))), none⟩,
    ⟨(some 8), (.mv (.t 15)), none⟩])))
theorem w68L0 {x : Cx} {Q : QT} {ks : List Kont} {fr : Fr} {H : AHeap} {ms : List Nat} : W x Q c68L0 ks fr H ms = W x Q (.seq (.seq (.ops [⟨(some 9), (.mv (.t 8)), none⟩,
      ⟨(some 10), (.mv (.t 0)), none⟩,
      ⟨(some 11), (.len (.t 10)), none⟩,
      ⟨(some 12), (.bin .shl (.k (I 1)) (.t 11)), none⟩,
      ⟨(some 13), (.bin .lss (.t 9) (.t 12)), none⟩])
    (.cond (.t 13)
      .skip
      (.exit 0)))
    (.seq (.block 1 (.seq (.ops [⟨(some 16), (.mv (.t 0)), none⟩,
      ⟨(some 17), (.mv (.t 1)), none⟩,
      ⟨(some 18), (.mv (.t 8)), none⟩,
      ⟨(some 19), (.mv (.t 8)), none⟩,
      ⟨(some 20), (.mv (.t 2)), none⟩,
      ⟨(some 21), (.call (.k (.fn (.func 85) [] [])) [(.t 16), (.t 17), (.t 18), (.t 19), (.k (I 0)), (.k (B false)), (.t 20)]), none⟩])
    (.cond (.t 21)
      (.seq (.ops [⟨(some 22), (.mv (.t 8)), none⟩,
        ⟨(some 6), (.mv (.t 22)), none⟩,
        ⟨(some 7), (.mv (.k (I 0))), none⟩])
      .ret)
      .skip)))
    (.ops [⟨(some 14), (.mv (.t 8)), none⟩,
      ⟨(some 15), (.bin .add (.t 14) (.k (I 1))), none⟩,
      ⟨(some 8), (.mv (.t 15)), none⟩]))) ks fr H ms := rfl
def c68 : ICode :=
  (.seq (.ops [⟨(some 6), (.mv (.k (I 0))), none⟩,
    ⟨(some 7), (.mv (.k (I 0))), none⟩])
  (.seq (.seq (.ops [⟨(some 8), (.mv (.k (I 1))), none⟩])
  (.block 0 (.loop c68L0)))
  c68T1))
theorem w68 {x : Cx} {Q : QT} {ks : List Kont} {fr : Fr} {H : AHeap} {ms : List Nat} : W x Q c68 ks fr H ms = W x Q (.seq (.ops [⟨(some 6), (.mv (.k (I 0))), none⟩,
      ⟨(some 7), (.mv (.k (I 0))), none⟩])
    (.seq (.seq (.ops [⟨(some 8), (.mv (.k (I 1))), none⟩])
    (.block 0 (.loop c68L0)))
    c68T1)) ks fr H ms := rfl
def r68 : List IRes := [(.tmp 6), (.tmp 7)]
theorem t68 : Try.f68.body.bind (trCode Try.prog Try.f68.ntmps) = some (strip c68) := by kernel_rfl
theorem q68 : trRes Try.prog Try.f68.results.toList = some r68 := by kernel_rfl
theorem fn68 : Try.prog.funcs[68]? = some Try.f68 := by kernel_rfl
theorem nn68 : (Try.f68.name == "runtime.NumGoroutine") = false := by kernel_rfl
theorem nt68 : Try.f68.ntmps = 23 := by kernel_rfl
def c85T3 : ICode :=
  (.keep [] (.seq (.ops [⟨(some 14), (.mv (.k (B false))), none⟩])
  .ret))
theorem w85T3 {x : Cx} {Q : QT} {ks : List Kont} {fr : Fr} {H : AHeap} {ms : List Nat} : W x Q c85T3 ks fr H ms = W x Q (.keep [] (.seq (.ops [⟨(some 14), (.mv (.k (B false))), none⟩])
    .ret)) ks fr H ms := rfl
/- live: [0, 1, 2, 3, 4, 5, 6, 37, 38] -/
def c85L2 : ICode :=
  (.seq (.ops [⟨(some 39), (.bin .lss (.t 38) (.t 37)), none⟩])
  (.seq (.cond (.t 39)
    .skip
    (.exit 2))
  (.seq (.block 3 (.seq (.ops [⟨(some 40), (.mv (.t 38)), none⟩,
    ⟨(some 15), (.mv (.t 40)), none⟩])
  (.seq (.seq (.ops [⟨(some 41), (.mv (.t 3)), none⟩,
    ⟨(some 42), (.mv (.t 15)), none⟩,
    ⟨(some 43), (.bin .shr (.t 41) (.t 42)), none⟩,
    ⟨(some 44), (.bin .and (.t 43) (.k (I 1))), none⟩,
    ⟨(some 45), (.bin .eql (.t 44) (.k (I 0))), none⟩])
  (.cond (.t 45)
    (.exit 3)
    .skip))
  (.seq (.draw 0 [] (.early 1 ⟨(some 46), (.mv (.t 0)), none⟩
    (.early 1 ⟨(some 47), (.mv (.t 4)), none⟩
    (.early 1 ⟨(some 48), (.mv (.t 15)), none⟩
    (.early 1 ⟨(some 49), (.call (.k (.fn (.func 24) [] [])) [(.t 46), (.t 47), (.t 48)]), none⟩
    (.early 1 ⟨(some 50), (.mv (.t 0)), none⟩
    (.early 1 ⟨(some 51), (.mv (.t 4)), none⟩
    (.early 1 ⟨(some 52), (.mv (.t 1)), none⟩
    (.early 1 ⟨(some 53), (.mv (.t 4)), none⟩
    (.early 1 ⟨(some 54), (.ixS 1 (.t 52) (.t 53)), none⟩
    (.early 1 ⟨(some 55), (.load false 1 (.t 54)), none⟩
    (.step 0 0 ⟨(some 56), (.call (.k (.fn (.func 24) [] [])) [(.t 50), (.t 51), (.t 55)]), none⟩
    (.early 0 ⟨(some 16), (.mv (.t 49)), none⟩
    (.early 0 ⟨(some 17), (.mv (.t 56)), none⟩
    .done))))))))))))))
  (.keep [0, 1, 2, 3, 4, 5, 6, 15, 16, 17, 37, 38] (.seq (.ops [⟨(some 57), (.mv (.t 16)), none⟩,
    ⟨(some 58), (.mv (.t 17)), none⟩,
    ⟨(some 59), (.bin .lss (.t 57) (.t 58)), none⟩,
    ⟨(some 60), (.mv (.t 59)), none⟩,
    ⟨(some 61), (.mv (.t 16)), (some (60, false))⟩,
    ⟨(some 62), (.mv (.t 17)), (some (60, false))⟩,
    ⟨(some 63), (.bin .eql (.t 61) (.t 62)), (some (60, false))⟩,
    ⟨(some 64), (.mv (.t 63)), (some (60, false))⟩,
    ⟨(some 65), (.mv (.t 6)), (some (64, true))⟩,
    ⟨(some 66), (.un .not (.t 65)), (some (64, true))⟩,
    ⟨(some 67), (.pick (.t 64) (.t 66) (.k (B false))), (some (60, false))⟩,
    ⟨(some 68), (.pick (.t 60) (.k (B true)) (.t 67)), none⟩,
    ⟨(some 69), (.mv (.t 68)), none⟩,
    ⟨(some 70), (.mv (.t 0)), (some (69, true))⟩,
    ⟨(some 71), (.mv (.t 1)), (some (69, true))⟩,
    ⟨(some 72), (.mv (.t 2)), (some (69, true))⟩,
    ⟨(some 73), (.mv (.t 3)), (some (69, true))⟩,
    ⟨(some 74), (.mv (.t 15)), (some (69, true))⟩,
    ⟨(some 75), (.bin .shl (.k (I 1)) (.t 74)), (some (69, true))⟩,
    ⟨(some 76), (.bin .andNot (.t 73) (.t 75)), (some (69, true))⟩,
    ⟨(some 77), (.mv (.t 4)), (some (69, true))⟩,
    ⟨(some 78), (.bin .add (.t 77) (.k (I 1))), (some (69, true))⟩,
    ⟨(some 79), (.mv (.t 5)), (some (69, true))⟩,
    ⟨(some 80), (.mv (.t 79)), (some (69, true))⟩,
    ⟨(some 81), (.mv (.t 16)), (some (80, false))⟩,
    ⟨(some 82), (.mv (.t 17)), (some (80, false))⟩,
    ⟨(some 83), (.bin .lss (.t 81) (.t 82)), (some (80, false))⟩,
    ⟨(some 84), (.pick (.t 80) (.k (B true)) (.t 83)), (some (69, true))⟩,
    ⟨(some 85), (.mv (.t 6)), (some (69, true))⟩,
    ⟨(some 86), (.call (.k (.fn (.func 85) [] [])) [(.t 70), (.t 71), (.t 72), (.t 76), (.t 78), (.t 84), (.t 85)]), (some (69, true))⟩,
    ⟨(some 87), (.pick (.t 69) (.t 86) (.k (B false))), none⟩])
  (.cond (.t 87)
    (.seq (.ops [⟨(some 14), (.mv (.k (B true))), none⟩])
    .ret)
    .skip)))))))
  (.ops [⟨(some 88), (.bin .add (.t 38) (.k (I 1))), none⟩,
    ⟨(some 38), (.mv (.t 88)), none⟩]))))
theorem w85L2 {x : Cx} {Q : QT} {ks : List Kont} {fr : Fr} {H : AHeap} {ms : List Nat} : W x Q c85L2 ks fr H ms = W x Q (.seq (.ops [⟨(some 39), (.bin .lss (.t 38) (.t 37)), none⟩])
    (.seq (.cond (.t 39)
      .skip
      (.exit 2))
    (.seq (.block 3 (.seq (.ops [⟨(some 40), (.mv (.t 38)), none⟩,
      ⟨(some 15), (.mv (.t 40)), none⟩])
    (.seq (.seq (.ops [⟨(some 41), (.mv (.t 3)), none⟩,
      ⟨(some 42), (.mv (.t 15)), none⟩,
      ⟨(some 43), (.bin .shr (.t 41) (.t 42)), none⟩,
      ⟨(some 44), (.bin .and (.t 43) (.k (I 1))), none⟩,
      ⟨(some 45), (.bin .eql (.t 44) (.k (I 0))), none⟩])
    (.cond (.t 45)
      (.exit 3)
      .skip))
    (.seq (.draw 0 [] (.early 1 ⟨(some 46), (.mv (.t 0)), none⟩
      (.early 1 ⟨(some 47), (.mv (.t 4)), none⟩
      (.early 1 ⟨(some 48), (.mv (.t 15)), none⟩
      (.early 1 ⟨(some 49), (.call (.k (.fn (.func 24) [] [])) [(.t 46), (.t 47), (.t 48)]), none⟩
      (.early 1 ⟨(some 50), (.mv (.t 0)), none⟩
      (.early 1 ⟨(some 51), (.mv (.t 4)), none⟩
      (.early 1 ⟨(some 52), (.mv (.t 1)), none⟩
      (.early 1 ⟨(some 53), (.mv (.t 4)), none⟩
      (.early 1 ⟨(some 54), (.ixS 1 (.t 52) (.t 53)), none⟩
      (.early 1 ⟨(some 55), (.load false 1 (.t 54)), none⟩
      (.step 0 0 ⟨(some 56), (.call (.k (.fn (.func 24) [] [])) [(.t 50), (.t 51), (.t 55)]), none⟩
      (.early 0 ⟨(some 16), (.mv (.t 49)), none⟩
      (.early 0 ⟨(some 17), (.mv (.t 56)), none⟩
      .done))))))))))))))
    (.keep [0, 1, 2, 3, 4, 5, 6, 15, 16, 17, 37, 38] (.seq (.ops [⟨(some 57), (.mv (.t 16)), none⟩,
      ⟨(some 58), (.mv (.t 17)), none⟩,
      ⟨(some 59), (.bin .lss (.t 57) (.t 58)), none⟩,
      ⟨(some 60), (.mv (.t 59)), none⟩,
      ⟨(some 61), (.mv (.t 16)), (some (60, false))⟩,
      ⟨(some 62), (.mv (.t 17)), (some (60, false))⟩,
      ⟨(some 63), (.bin .eql (.t 61) (.t 62)), (some (60, false))⟩,
      ⟨(some 64), (.mv (.t 63)), (some (60, false))⟩,
      ⟨(some 65), (.mv (.t 6)), (some (64, true))⟩,
      ⟨(some 66), (.un .not (.t 65)), (some (64, true))⟩,
      ⟨(some 67), (.pick (.t 64) (.t 66) (.k (B false))), (some (60, false))⟩,
      ⟨(some 68), (.pick (.t 60) (.k (B true)) (.t 67)), none⟩,
      ⟨(some 69), (.mv (.t 68)), none⟩,
      ⟨(some 70), (.mv (.t 0)), (some (69, true))⟩,
      ⟨(some 71), (.mv (.t 1)), (some (69, true))⟩,
      ⟨(some 72), (.mv (.t 2)), (some (69, true))⟩,
      ⟨(some 73), (.mv (.t 3)), (some (69, true))⟩,
      ⟨(some 74), (.mv (.t 15)), (some (69, true))⟩,
      ⟨(some 75), (.bin .shl (.k (I 1)) (.t 74)), (some (69, true))⟩,
      ⟨(some 76), (.bin .andNot (.t 73) (.t 75)), (some (69, true))⟩,
      ⟨(some 77), (.mv (.t 4)), (some (69, true))⟩,
      ⟨(some 78), (.bin .add (.t 77) (.k (I 1))), (some (69, true))⟩,
      ⟨(some 79), (.mv (.t 5)), (some (69, true))⟩,
      ⟨(some 80), (.mv (.t 79)), (some (69, true))⟩,
      ⟨(some 81), (.mv (.t 16)), (some (80, false))⟩,
      ⟨(some 82), (.mv (.t 17)), (some (80, false))⟩,
      ⟨(some 83), (.bin .lss (.t 81) (.t 82)), (some (80, false))⟩,
      ⟨(some 84), (.pick (.t 80) (.k (B true)) (.t 83)), (some (69, true))⟩,
      ⟨(some 85), (.mv (.t 6)), (some (69, true))⟩,
      ⟨(some 86), (.call (.k (.fn (.func 85) [] [])) [(.t 70), (.t 71), (.t 72), (.t 76), (.t 78), (.t 84), (.t 85)]), (some (69, true))⟩,
      ⟨(some 87), (.pick (.t 69) (.t 86) (.k (B false))), none⟩])
    (.cond (.t 87)
      (.seq (.ops [⟨(some 14), (.mv (.k (B true))), none⟩])
      .ret)
      .skip)))))))
    (.ops [⟨(some 88), (.bin .add (.t 38) (.k (I 1))), none⟩,
      ⟨(some 38), (.mv (.t 88)), none⟩])))) ks fr H ms := rfl
def c85T1 : ICode :=
  (.keep [0, 1, 2, 3, 4, 5, 6] (.seq (.seq (.ops [⟨(some 31), (.mv (.t 4)), none⟩,
    ⟨(some 32), (.mv (.t 0)), none⟩,
    ⟨(some 33), (.len (.t 32)), none⟩,
    ⟨(some 34), (.bin .eql (.t 31) (.t 33)), none⟩])
  (.cond (.t 34)
    (.seq (.ops [⟨(some 35), (.mv (.t 5)), none⟩,
      ⟨(some 14), (.mv (.t 35)), none⟩])
    .ret)
    .skip))
  (.seq (.seq (.ops [⟨(some 36), (.mv (.t 0)), none⟩,
    ⟨(some 37), (.len (.t 36)), none⟩,
    ⟨(some 38), (.mv (.k (I 0))), none⟩])
  (.block 2 (.loop c85L2)))
  c85T3)))
theorem w85T1 {x : Cx} {Q : QT} {ks : List Kont} {fr : Fr} {H : AHeap} {ms : List Nat} : W x Q c85T1 ks fr H ms = W x Q (.keep [0, 1, 2, 3, 4, 5, 6] (.seq (.seq (.ops [⟨(some 31), (.mv (.t 4)), none⟩,
      ⟨(some 32), (.mv (.t 0)), none⟩,
      ⟨(some 33), (.len (.t 32)), none⟩,
      ⟨(some 34), (.bin .eql (.t 31) (.t 33)), none⟩])
    (.cond (.t 34)
      (.seq (.ops [⟨(some 35), (.mv (.t 5)), none⟩,
        ⟨(some 14), (.mv (.t 35)), none⟩])
      .ret)
      .skip))
    (.seq (.seq (.ops [⟨(some 36), (.mv (.t 0)), none⟩,
      ⟨(some 37), (.len (.t 36)), none⟩,
      ⟨(some 38), (.mv (.k (I 0))), none⟩])
    (.block 2 (.loop c85L2)))
    c85T3))) ks fr H ms := rfl
/- live: [0, 1, 2, 3, 4, 5, 6] -/
def c85L0 : ICode :=
  (.seq (.seq (.ops [⟨(some 18), (.mv (.t 4)), none⟩,
    ⟨(some 19), (.mv (.t 0)), none⟩,
    ⟨(some 20), (.len (.t 19)), none⟩,
    ⟨(some 21), (.bin .lss (.t 18) (.t 20)), none⟩,
    ⟨(some 22), (.mv (.t 21)), none⟩,
    ⟨(some 23), (.mv (.t 2)), (some (22, true))⟩,
    ⟨(some 24), (.mv (.t 4)), (some (22, true))⟩,
    ⟨(some 25), (.bin .shr (.t 23) (.t 24)), (some (22, true))⟩,
    ⟨(some 26), (.bin .and (.t 25) (.k (I 1))), (some (22, true))⟩,
    ⟨(some 27), (.bin .eql (.t 26) (.k (I 0))), (some (22, true))⟩,
    ⟨(some 28), (.pick (.t 22) (.t 27) (.k (B false))), none⟩])
  (.cond (.t 28)
    .skip
    (.exit 0)))
  (.block 1 (.ops [⟨(some 29), (.mv (.t 4)), none⟩,
    ⟨(some 30), (.bin .add (.t 29) (.k (I 1))), none⟩,
    ⟨(some 4), (.mv (.t 30)), none⟩])))
theorem w85L0 {x : Cx} {Q : QT} {ks : List Kont} {fr : Fr} {H : AHeap} {ms : List Nat} : W x Q c85L0 ks fr H ms = W x Q (.seq (.seq (.ops [⟨(some 18), (.mv (.t 4)), none⟩,
      ⟨(some 19), (.mv (.t 0)), none⟩,
      ⟨(some 20), (.len (.t 19)), none⟩,
      ⟨(some 21), (.bin .lss (.t 18) (.t 20)), none⟩,
      ⟨(some 22), (.mv (.t 21)), none⟩,
      ⟨(some 23), (.mv (.t 2)), (some (22, true))⟩,
      ⟨(some 24), (.mv (.t 4)), (some (22, true))⟩,
      ⟨(some 25), (.bin .shr (.t 23) (.t 24)), (some (22, true))⟩,
      ⟨(some 26), (.bin .and (.t 25) (.k (I 1))), (some (22, true))⟩,
      ⟨(some 27), (.bin .eql (.t 26) (.k (I 0))), (some (22, true))⟩,
      ⟨(some 28), (.pick (.t 22) (.t 27) (.k (B false))), none⟩])
    (.cond (.t 28)
      .skip
      (.exit 0)))
    (.block 1 (.ops [⟨(some 29), (.mv (.t 4)), none⟩,
      ⟨(some 30), (.bin .add (.t 29) (.k (I 1))), none⟩,
      ⟨(some 4), (.mv (.t 30)), none⟩]))) ks fr H ms := rfl
def c85 : ICode :=
  (.seq (.ops [⟨(some 14), (.mv (.k (B false))), none⟩])
  (.seq (.block 0 (.loop c85L0))
  c85T1))
theorem w85 {x : Cx} {Q : QT} {ks : List Kont} {fr : Fr} {H : AHeap} {ms : List Nat} : W x Q c85 ks fr H ms = W x Q (.seq (.ops [⟨(some 14), (.mv (.k (B false))), none⟩])
    (.seq (.block 0 (.loop c85L0))
    c85T1)) ks fr H ms := rfl
def r85 : List IRes := [(.tmp 14)]
theorem t85 : Try.f85.body.bind (trCode Try.prog Try.f85.ntmps) = some (strip c85) := by kernel_rfl
theorem q85 : trRes Try.prog Try.f85.results.toList = some r85 := by kernel_rfl
theorem fn85 : Try.prog.funcs[85]? = some Try.f85 := by kernel_rfl
theorem nn85 : (Try.f85.name == "runtime.NumGoroutine") = false := by kernel_rfl
theorem nt85 : Try.f85.ntmps = 89 := by kernel_rfl
def c9T0 : ICode :=
  (.keep [0, 1, 5, 6, 7, 8, 9, 10] (.seq (.ops [⟨(some 72), (.mv (.t 0)), none⟩,
    ⟨(some 73), (.mv (.t 1)), none⟩,
    ⟨(some 74), (.call (.k (.fn (.func 40) [] [])) [(.t 72), (.t 73)]), none⟩,
    ⟨(some 71), (.mv (.t 74)), none⟩,
    ⟨(some 75), (.ext (.t 71) 0), none⟩,
    ⟨(some 76), (.ext (.t 71) 1), none⟩,
    ⟨(some 11), (.mv (.t 75)), none⟩,
    ⟨(some 12), (.mv (.t 76)), none⟩])
  (.seq (.ops [⟨(some 78), (.mv (.t 0)), none⟩,
    ⟨(some 79), (.mv (.t 1)), none⟩,
    ⟨(some 80), (.call (.k (.fn (.func 41) [] [])) [(.t 78), (.t 79)]), none⟩,
    ⟨(some 77), (.mv (.t 80)), none⟩,
    ⟨(some 81), (.ext (.t 77) 0), none⟩,
    ⟨(some 82), (.ext (.t 77) 1), none⟩,
    ⟨(some 13), (.mv (.t 81)), none⟩,
    ⟨(some 14), (.mv (.t 82)), none⟩])
  (.seq (.ops [⟨(some 84), (.mv (.t 0)), none⟩,
    ⟨(some 85), (.mv (.t 1)), none⟩,
    ⟨(some 86), (.call (.k (.fn (.func 42) [] [])) [(.t 84), (.t 85)]), none⟩,
    ⟨(some 83), (.mv (.t 86)), none⟩,
    ⟨(some 87), (.ext (.t 83) 0), none⟩,
    ⟨(some 88), (.ext (.t 83) 1), none⟩,
    ⟨(some 15), (.mv (.t 87)), none⟩,
    ⟨(some 16), (.mv (.t 88)), none⟩])
  (.seq (.ops [⟨(some 89), (.mv (.t 5)), none⟩,
    ⟨(some 90), (.mv (.t 11)), none⟩,
    ⟨(some 91), (.bin .eql (.t 89) (.t 90)), none⟩,
    ⟨(some 92), (.mv (.t 91)), none⟩,
    ⟨(some 93), (.mv (.t 7)), (some (92, true))⟩,
    ⟨(some 94), (.mv (.t 13)), (some (92, true))⟩,
    ⟨(some 95), (.bin .eql (.t 93) (.t 94)), (some (92, true))⟩,
    ⟨(some 96), (.pick (.t 92) (.t 95) (.k (B false))), none⟩,
    ⟨(some 97), (.mv (.t 96)), none⟩,
    ⟨(some 98), (.mv (.t 9)), (some (97, true))⟩,
    ⟨(some 99), (.mv (.t 15)), (some (97, true))⟩,
    ⟨(some 100), (.call (.k (.fn (.func 20) [] [])) [(.t 98), (.t 99)]), (some (97, true))⟩,
    ⟨(some 101), (.pick (.t 97) (.t 100) (.k (B false))), none⟩,
    ⟨(some 102), (.mv (.t 101)), none⟩,
    ⟨(some 103), (.mv (.t 6)), (some (102, true))⟩,
    ⟨(some 104), (.mv (.t 12)), (some (102, true))⟩,
    ⟨(some 105), (.bin .eql (.t 103) (.t 104)), (some (102, true))⟩,
    ⟨(some 106), (.pick (.t 102) (.t 105) (.k (B false))), none⟩,
    ⟨(some 107), (.mv (.t 106)), none⟩,
    ⟨(some 108), (.mv (.t 8)), (some (107, true))⟩,
    ⟨(some 109), (.mv (.t 14)), (some (107, true))⟩,
    ⟨(some 110), (.bin .eql (.t 108) (.t 109)), (some (107, true))⟩,
    ⟨(some 111), (.pick (.t 107) (.t 110) (.k (B false))), none⟩,
    ⟨(some 112), (.mv (.t 111)), none⟩,
    ⟨(some 113), (.mv (.t 10)), (some (112, true))⟩,
    ⟨(some 114), (.mv (.t 16)), (some (112, true))⟩,
    ⟨(some 115), (.bin .eql (.t 113) (.t 114)), (some (112, true))⟩,
    ⟨(some 116), (.pick (.t 112) (.t 115) (.k (B false))), none⟩,
    ⟨(some 117), (.mv (.t 116)), none⟩,
    ⟨(some 118), (.call (.k (.fn (.func 19) [] [])) []), (some (117, true))⟩,
    ⟨(some 119), (.pick (.t 117) (.t 118) (.k (B false))), none⟩,
    ⟨(some 4), (.mv (.t 119)), none⟩])
  .ret)))))
theorem w9T0 {x : Cx} {Q : QT} {ks : List Kont} {fr : Fr} {H : AHeap} {ms : List Nat} : W x Q c9T0 ks fr H ms = W x Q (.keep [0, 1, 5, 6, 7, 8, 9, 10] (.seq (.ops [⟨(some 72), (.mv (.t 0)), none⟩,
      ⟨(some 73), (.mv (.t 1)), none⟩,
      ⟨(some 74), (.call (.k (.fn (.func 40) [] [])) [(.t 72), (.t 73)]), none⟩,
      ⟨(some 71), (.mv (.t 74)), none⟩,
      ⟨(some 75), (.ext (.t 71) 0), none⟩,
      ⟨(some 76), (.ext (.t 71) 1), none⟩,
      ⟨(some 11), (.mv (.t 75)), none⟩,
      ⟨(some 12), (.mv (.t 76)), none⟩])
    (.seq (.ops [⟨(some 78), (.mv (.t 0)), none⟩,
      ⟨(some 79), (.mv (.t 1)), none⟩,
      ⟨(some 80), (.call (.k (.fn (.func 41) [] [])) [(.t 78), (.t 79)]), none⟩,
      ⟨(some 77), (.mv (.t 80)), none⟩,
      ⟨(some 81), (.ext (.t 77) 0), none⟩,
      ⟨(some 82), (.ext (.t 77) 1), none⟩,
      ⟨(some 13), (.mv (.t 81)), none⟩,
      ⟨(some 14), (.mv (.t 82)), none⟩])
    (.seq (.ops [⟨(some 84), (.mv (.t 0)), none⟩,
      ⟨(some 85), (.mv (.t 1)), none⟩,
      ⟨(some 86), (.call (.k (.fn (.func 42) [] [])) [(.t 84), (.t 85)]), none⟩,
      ⟨(some 83), (.mv (.t 86)), none⟩,
      ⟨(some 87), (.ext (.t 83) 0), none⟩,
      ⟨(some 88), (.ext (.t 83) 1), none⟩,
      ⟨(some 15), (.mv (.t 87)), none⟩,
      ⟨(some 16), (.mv (.t 88)), none⟩])
    (.seq (.ops [⟨(some 89), (.mv (.t 5)), none⟩,
      ⟨(some 90), (.mv (.t 11)), none⟩,
      ⟨(some 91), (.bin .eql (.t 89) (.t 90)), none⟩,
      ⟨(some 92), (.mv (.t 91)), none⟩,
      ⟨(some 93), (.mv (.t 7)), (some (92, true))⟩,
      ⟨(some 94), (.mv (.t 13)), (some (92, true))⟩,
      ⟨(some 95), (.bin .eql (.t 93) (.t 94)), (some (92, true))⟩,
      ⟨(some 96), (.pick (.t 92) (.t 95) (.k (B false))), none⟩,
      ⟨(some 97), (.mv (.t 96)), none⟩,
      ⟨(some 98), (.mv (.t 9)), (some (97, true))⟩,
      ⟨(some 99), (.mv (.t 15)), (some (97, true))⟩,
      ⟨(some 100), (.call (.k (.fn (.func 20) [] [])) [(.t 98), (.t 99)]), (some (97, true))⟩,
      ⟨(some 101), (.pick (.t 97) (.t 100) (.k (B false))), none⟩,
      ⟨(some 102), (.mv (.t 101)), none⟩,
      ⟨(some 103), (.mv (.t 6)), (some (102, true))⟩,
      ⟨(some 104), (.mv (.t 12)), (some (102, true))⟩,
      ⟨(some 105), (.bin .eql (.t 103) (.t 104)), (some (102, true))⟩,
      ⟨(some 106), (.pick (.t 102) (.t 105) (.k (B false))), none⟩,
      ⟨(some 107), (.mv (.t 106)), none⟩,
      ⟨(some 108), (.mv (.t 8)), (some (107, true))⟩,
      ⟨(some 109), (.mv (.t 14)), (some (107, true))⟩,
      ⟨(some 110), (.bin .eql (.t 108) (.t 109)), (some (107, true))⟩,
      ⟨(some 111), (.pick (.t 107) (.t 110) (.k (B false))), none⟩,
      ⟨(some 112), (.mv (.t 111)), none⟩,
      ⟨(some 113), (.mv (.t 10)), (some (112, true))⟩,
      ⟨(some 114), (.mv (.t 16)), (some (112, true))⟩,
      ⟨(some 115), (.bin .eql (.t 113) (.t 114)), (some (112, true))⟩,
      ⟨(some 116), (.pick (.t 112) (.t 115) (.k (B false))), none⟩,
      ⟨(some 117), (.mv (.t 116)), none⟩,
      ⟨(some 118), (.call (.k (.fn (.func 19) [] [])) []), (some (117, true))⟩,
      ⟨(some 119), (.pick (.t 117) (.t 118) (.k (B false))), none⟩,
      ⟨(some 4), (.mv (.t 119)), none⟩])
    .ret))))) ks fr H ms := rfl
def c9 : ICode :=
  (.seq (.ops [⟨(some 4), (.mv (.k (B false))), none⟩])
  (.seq (.ops [⟨(some 18), (.mv (.t 0)), none⟩,
    ⟨(some 19), (.call (.k (.fn (.func 16) [] [])) [(.t 18)]), none⟩,
    ⟨(some 20), (.mv (.t 1)), none⟩,
    ⟨(some 21), (.call (.k (.fn (.func 27) [] [])) [(.t 20)]), none⟩,
    ⟨(some 22), (.call (.k (.fn (.func 37) [] [])) [(.t 19), (.t 21)]), none⟩,
    ⟨(some 17), (.mv (.t 22)), none⟩,
    ⟨(some 23), (.ext (.t 17) 0), none⟩,
    ⟨(some 24), (.ext (.t 17) 1), none⟩,
    ⟨(some 5), (.mv (.t 23)), none⟩,
    ⟨(some 6), (.mv (.t 24)), none⟩])
  (.seq (.ops [⟨(some 26), (.mv (.t 0)), none⟩,
    ⟨(some 27), (.call (.k (.fn (.func 16) [] [])) [(.t 26)]), none⟩,
    ⟨(some 28), (.mv (.t 1)), none⟩,
    ⟨(some 29), (.call (.k (.fn (.func 27) [] [])) [(.t 28)]), none⟩,
    ⟨(some 30), (.call (.k (.fn (.func 38) [] [])) [(.t 27), (.t 29)]), none⟩,
    ⟨(some 25), (.mv (.t 30)), none⟩,
    ⟨(some 31), (.ext (.t 25) 0), none⟩,
    ⟨(some 32), (.ext (.t 25) 1), none⟩,
    ⟨(some 7), (.mv (.t 31)), none⟩,
    ⟨(some 8), (.mv (.t 32)), none⟩])
  (.seq (.ops [⟨(some 34), (.mv (.t 0)), none⟩,
    ⟨(some 35), (.call (.k (.fn (.func 16) [] [])) [(.t 34)]), none⟩,
    ⟨(some 36), (.mv (.t 1)), none⟩,
    ⟨(some 37), (.call (.k (.fn (.func 27) [] [])) [(.t 36)]), none⟩,
    ⟨(some 38), (.call (.k (.fn (.func 39) [] [])) [(.t 35), (.t 37)]), none⟩,
    ⟨(some 33), (.mv (.t 38)), none⟩,
    ⟨(some 39), (.ext (.t 33) 0), none⟩,
    ⟨(some 40), (.ext (.t 33) 1), none⟩,
    ⟨(some 9), (.mv (.t 39)), none⟩,
    ⟨(some 10), (.mv (.t 40)), none⟩])
  (.seq (.seq (.ops [⟨(some 41), (.mv (.t 0)), none⟩,
    ⟨(some 42), (.mv (.t 1)), none⟩,
    ⟨(some 43), (.call (.k (.fn (.func 28) [] [])) [(.t 41), (.t 42)]), none⟩,
    ⟨(some 44), (.un .not (.t 43)), none⟩])
  (.cond (.t 44)
    (.seq (.ops [⟨(some 45), (.mv (.t 5)), none⟩,
      ⟨(some 46), (.bin .eql (.t 45) (.k (I 0))), none⟩,
      ⟨(some 47), (.mv (.t 46)), none⟩,
      ⟨(some 48), (.mv (.t 7)), (some (47, true))⟩,
      ⟨(some 49), (.bin .eql (.t 48) (.k (I 0))), (some (47, true))⟩,
      ⟨(some 50), (.pick (.t 47) (.t 49) (.k (B false))), none⟩,
      ⟨(some 51), (.mv (.t 50)), none⟩,
      ⟨(some 52), (.mv (.t 9)), (some (51, true))⟩,
      ⟨(some 53), (.len (.t 52)), (some (51, true))⟩,
      ⟨(some 54), (.bin .eql (.t 53) (.k (I 0))), (some (51, true))⟩,
      ⟨(some 55), (.pick (.t 51) (.t 54) (.k (B false))), none⟩,
      ⟨(some 56), (.mv (.t 55)), none⟩,
      ⟨(some 57), (.mv (.t 6)), (some (56, true))⟩,
      ⟨(some 58), (.bin .eql (.t 57) (.k (I 2))), (some (56, true))⟩,
      ⟨(some 59), (.pick (.t 56) (.t 58) (.k (B false))), none⟩,
      ⟨(some 60), (.mv (.t 59)), none⟩,
      ⟨(some 61), (.mv (.t 8)), (some (60, true))⟩,
      ⟨(some 62), (.bin .eql (.t 61) (.k (I 2))), (some (60, true))⟩,
      ⟨(some 63), (.pick (.t 60) (.t 62) (.k (B false))), none⟩,
      ⟨(some 64), (.mv (.t 63)), none⟩,
      ⟨(some 65), (.mv (.t 10)), (some (64, true))⟩,
      ⟨(some 66), (.bin .eql (.t 65) (.k (I 2))), (some (64, true))⟩,
      ⟨(some 67), (.pick (.t 64) (.t 66) (.k (B false))), none⟩,
      ⟨(some 68), (.mv (.t 67)), none⟩,
      ⟨(some 69), (.call (.k (.fn (.func 19) [] [])) []), (some (68, true))⟩,
      ⟨(some 70), (.pick (.t 68) (.t 69) (.k (B false))), none⟩,
      ⟨(some 4), (.mv (.t 70)), none⟩])
    .ret)
    .skip))
  c9T0)))))
theorem w9 {x : Cx} {Q : QT} {ks : List Kont} {fr : Fr} {H : AHeap} {ms : List Nat} : W x Q c9 ks fr H ms = W x Q (.seq (.ops [⟨(some 4), (.mv (.k (B false))), none⟩])
    (.seq (.ops [⟨(some 18), (.mv (.t 0)), none⟩,
      ⟨(some 19), (.call (.k (.fn (.func 16) [] [])) [(.t 18)]), none⟩,
      ⟨(some 20), (.mv (.t 1)), none⟩,
      ⟨(some 21), (.call (.k (.fn (.func 27) [] [])) [(.t 20)]), none⟩,
      ⟨(some 22), (.call (.k (.fn (.func 37) [] [])) [(.t 19), (.t 21)]), none⟩,
      ⟨(some 17), (.mv (.t 22)), none⟩,
      ⟨(some 23), (.ext (.t 17) 0), none⟩,
      ⟨(some 24), (.ext (.t 17) 1), none⟩,
      ⟨(some 5), (.mv (.t 23)), none⟩,
      ⟨(some 6), (.mv (.t 24)), none⟩])
    (.seq (.ops [⟨(some 26), (.mv (.t 0)), none⟩,
      ⟨(some 27), (.call (.k (.fn (.func 16) [] [])) [(.t 26)]), none⟩,
      ⟨(some 28), (.mv (.t 1)), none⟩,
      ⟨(some 29), (.call (.k (.fn (.func 27) [] [])) [(.t 28)]), none⟩,
      ⟨(some 30), (.call (.k (.fn (.func 38) [] [])) [(.t 27), (.t 29)]), none⟩,
      ⟨(some 25), (.mv (.t 30)), none⟩,
      ⟨(some 31), (.ext (.t 25) 0), none⟩,
      ⟨(some 32), (.ext (.t 25) 1), none⟩,
      ⟨(some 7), (.mv (.t 31)), none⟩,
      ⟨(some 8), (.mv (.t 32)), none⟩])
    (.seq (.ops [⟨(some 34), (.mv (.t 0)), none⟩,
      ⟨(some 35), (.call (.k (.fn (.func 16) [] [])) [(.t 34)]), none⟩,
      ⟨(some 36), (.mv (.t 1)), none⟩,
      ⟨(some 37), (.call (.k (.fn (.func 27) [] [])) [(.t 36)]), none⟩,
      ⟨(some 38), (.call (.k (.fn (.func 39) [] [])) [(.t 35), (.t 37)]), none⟩,
      ⟨(some 33), (.mv (.t 38)), none⟩,
      ⟨(some 39), (.ext (.t 33) 0), none⟩,
      ⟨(some 40), (.ext (.t 33) 1), none⟩,
      ⟨(some 9), (.mv (.t 39)), none⟩,
      ⟨(some 10), (.mv (.t 40)), none⟩])
    (.seq (.seq (.ops [⟨(some 41), (.mv (.t 0)), none⟩,
      ⟨(some 42), (.mv (.t 1)), none⟩,
      ⟨(some 43), (.call (.k (.fn (.func 28) [] [])) [(.t 41), (.t 42)]), none⟩,
      ⟨(some 44), (.un .not (.t 43)), none⟩])
    (.cond (.t 44)
      (.seq (.ops [⟨(some 45), (.mv (.t 5)), none⟩,
        ⟨(some 46), (.bin .eql (.t 45) (.k (I 0))), none⟩,
        ⟨(some 47), (.mv (.t 46)), none⟩,
        ⟨(some 48), (.mv (.t 7)), (some (47, true))⟩,
        ⟨(some 49), (.bin .eql (.t 48) (.k (I 0))), (some (47, true))⟩,
        ⟨(some 50), (.pick (.t 47) (.t 49) (.k (B false))), none⟩,
        ⟨(some 51), (.mv (.t 50)), none⟩,
        ⟨(some 52), (.mv (.t 9)), (some (51, true))⟩,
        ⟨(some 53), (.len (.t 52)), (some (51, true))⟩,
        ⟨(some 54), (.bin .eql (.t 53) (.k (I 0))), (some (51, true))⟩,
        ⟨(some 55), (.pick (.t 51) (.t 54) (.k (B false))), none⟩,
        ⟨(some 56), (.mv (.t 55)), none⟩,
        ⟨(some 57), (.mv (.t 6)), (some (56, true))⟩,
        ⟨(some 58), (.bin .eql (.t 57) (.k (I 2))), (some (56, true))⟩,
        ⟨(some 59), (.pick (.t 56) (.t 58) (.k (B false))), none⟩,
        ⟨(some 60), (.mv (.t 59)), none⟩,
        ⟨(some 61), (.mv (.t 8)), (some (60, true))⟩,
        ⟨(some 62), (.bin .eql (.t 61) (.k (I 2))), (some (60, true))⟩,
        ⟨(some 63), (.pick (.t 60) (.t 62) (.k (B false))), none⟩,
        ⟨(some 64), (.mv (.t 63)), none⟩,
        ⟨(some 65), (.mv (.t 10)), (some (64, true))⟩,
        ⟨(some 66), (.bin .eql (.t 65) (.k (I 2))), (some (64, true))⟩,
        ⟨(some 67), (.pick (.t 64) (.t 66) (.k (B false))), none⟩,
        ⟨(some 68), (.mv (.t 67)), none⟩,
        ⟨(some 69), (.call (.k (.fn (.func 19) [] [])) []), (some (68, true))⟩,
        ⟨(some 70), (.pick (.t 68) (.t 69) (.k (B false))), none⟩,
        ⟨(some 4), (.mv (.t 70)), none⟩])
      .ret)
      .skip))
    c9T0))))) ks fr H ms := rfl
def r9 : List IRes := [(.tmp 4)]
theorem t9 : Try.f9.body.bind (trCode Try.prog Try.f9.ntmps) = some (strip c9) := by kernel_rfl
theorem q9 : trRes Try.prog Try.f9.results.toList = some r9 := by kernel_rfl
theorem fn9 : Try.prog.funcs[9]? = some Try.f9 := by kernel_rfl
theorem nn9 : (Try.f9.name == "runtime.NumGoroutine") = false := by kernel_rfl
theorem nt9 : Try.f9.ntmps = 120 := by kernel_rfl
end Go.Proofs.Ytkmmngphcodjjaa
