/- The code of some functions of the program, cleaned: printed by a program of mine, checked here. -/
import Derived.Test.YthdjloegibenoaaProg
import Derived.Test.YthdjloegibenoaaAS
import Derived.KernelRfl
import Derived.Test.YthdjloegibenoaaDA
namespace Go.Proofs.Ythdjloegibenoaa
open Go.Abs AVal
def c64 : ICode :=
  (.seq (.ops [⟨(some 1), (.box (.t 0)), none⟩,
    ⟨(some 2), (.mv (.k (.val .nilFunc))), none⟩])
  (.seq (.ops [⟨(some 3), (.mkfn (.func 74) [] [(.t 1)]), none⟩,
    ⟨(some 2), (.mv (.t 3)), none⟩])
  .ret))
theorem w64 {x : Cx} {Q : QT} {ks : List Kont} {fr : Fr} {H : AHeap} {ms : List Nat} : W x Q c64 ks fr H ms = W x Q (.seq (.ops [⟨(some 1), (.box (.t 0)), none⟩,
      ⟨(some 2), (.mv (.k (.val .nilFunc))), none⟩])
    (.seq (.ops [⟨(some 3), (.mkfn (.func 74) [] [(.t 1)]), none⟩,
      ⟨(some 2), (.mv (.t 3)), none⟩])
    .ret)) ks fr H ms := rfl
def r64 : List IRes := [(.tmp 2)]
theorem t64 : Try.f64.body.bind (trCode Try.prog Try.f64.ntmps) = some (strip c64) := by kernel_rfl
theorem q64 : trRes Try.prog Try.f64.results.toList = some r64 := by kernel_rfl
theorem fn64 : Try.prog.funcs[64]? = some Try.f64 := by kernel_rfl
theorem nn64 : (Try.f64.name == "runtime.NumGoroutine") = false := by kernel_rfl
theorem nt64 : Try.f64.ntmps = 4 := by kernel_rfl
def c74 : ICode :=
  (.seq (.ops [⟨(some 2), (.box (.t 0)), none⟩])
  (.seq (.ops [⟨(some 3), (.alloc [nilSl]), none⟩])
  (.seq (.ops [⟨(some 4), (.alloc [(.val .nilFunc)]), none⟩])
  (.seq (.ops [⟨(some 5), (.mkfn (.func 75) [] [(.t 3), (.t 1), (.t 2), (.t 4)]), none⟩,
    ⟨none, (.store 1 (.t 4) (.t 5)), none⟩])
  (.ops [⟨(some 6), (.load false 1 (.t 4)), none⟩,
    ⟨(some 7), (.call (.t 6) [(.k (I 0))]), none⟩])))))
theorem w74 {x : Cx} {Q : QT} {ks : List Kont} {fr : Fr} {H : AHeap} {ms : List Nat} : W x Q c74 ks fr H ms = W x Q (.seq (.ops [⟨(some 2), (.box (.t 0)), none⟩])
    (.seq (.ops [⟨(some 3), (.alloc [nilSl]), none⟩])
    (.seq (.ops [⟨(some 4), (.alloc [(.val .nilFunc)]), none⟩])
    (.seq (.ops [⟨(some 5), (.mkfn (.func 75) [] [(.t 3), (.t 1), (.t 2), (.t 4)]), none⟩,
      ⟨none, (.store 1 (.t 4) (.t 5)), none⟩])
    (.ops [⟨(some 6), (.load false 1 (.t 4)), none⟩,
      ⟨(some 7), (.call (.t 6) [(.k (I 0))]), none⟩]))))) ks fr H ms := rfl
def r74 : List IRes := []
theorem t74 : Try.f74.body.bind (trCode Try.prog Try.f74.ntmps) = some (strip c74) := by kernel_rfl
theorem q74 : trRes Try.prog Try.f74.results.toList = some r74 := by kernel_rfl
theorem fn74 : Try.prog.funcs[74]? = some Try.f74 := by kernel_rfl
theorem nn74 : (Try.f74.name == "runtime.NumGoroutine") = false := by kernel_rfl
theorem nt74 : Try.f74.ntmps = 8 := by kernel_rfl
def c75T1 : ICode :=
  (.keep [] (.seq (.ops [⟨(some 6), (.mv (.k (B true))), none⟩])
  .ret))
theorem w75T1 {x : Cx} {Q : QT} {ks : List Kont} {fr : Fr} {H : AHeap} {ms : List Nat} : W x Q c75T1 ks fr H ms = W x Q (.keep [] (.seq (.ops [⟨(some 6), (.mv (.k (B true))), none⟩])
    .ret)) ks fr H ms := rfl
/- live: [0, 1, 4, 16, 17] -/
def c75L0 : ICode :=
  (.seq (.ops [⟨(some 18), (.bin .lss (.t 17) (.t 16)), none⟩])
  (.seq (.cond (.t 18)
    .skip
    (.exit 0))
  (.seq (.block 1 (.seq (.ops [⟨(some 19), (.mv (.t 17)), none⟩,
    ⟨(some 7), (.mv (.t 19)), none⟩])
  (.seq (.ops [⟨(some 20), (.mv (.t 0)), none⟩,
    ⟨(some 21), (.mv (.t 7)), none⟩,
    ⟨(some 22), (.bin .shr (.t 20) (.t 21)), none⟩,
    ⟨(some 23), (.bin .and (.t 22) (.k (I 1))), none⟩,
    ⟨(some 24), (.bin .eql (.t 23) (.k (I 0))), none⟩])
  (.cond (.t 24)
    (.seq (.ops [⟨(some 25), (.load false 1 (.t 1)), none⟩,
      ⟨(some 26), (.mv (.t 7)), none⟩,
      ⟨(some 27), (.bslice 1 1 [(I 0)] [(0, 1, (.t 26))]), none⟩,
      ⟨(some 28), (.append 1 8 (.t 25) (.t 27)), none⟩,
      ⟨none, (.store 1 (.t 1) (.t 28)), none⟩])
    (.seq (.draw 0 [] (.early 1 ⟨(some 29), (.load false 1 (.t 4)), none⟩
      (.early 1 ⟨(some 30), (.mv (.t 0)), none⟩
      (.early 1 ⟨(some 31), (.mv (.t 7)), none⟩
      (.early 1 ⟨(some 32), (.bin .shl (.k (I 1)) (.t 31)), none⟩
      (.early 1 ⟨(some 33), (.bin .or (.t 30) (.t 32)), none⟩
      (.step 0 0 ⟨(some 34), (.call (.t 29) [(.t 33)]), none⟩
      (.early 0 ⟨(some 8), (.mv (.t 34)), none⟩
      .done))))))))
    (.keep [0, 1, 4, 8, 16, 17] (.seq (.ops [⟨(some 35), (.load false 1 (.t 1)), none⟩,
      ⟨(some 36), (.load false 1 (.t 1)), none⟩,
      ⟨(some 37), (.len (.t 36)), none⟩,
      ⟨(some 38), (.bin .sub (.t 37) (.k (I 1))), none⟩,
      ⟨(some 39), (.slS 1 (.t 35) none (some (.t 38)) none), none⟩,
      ⟨none, (.store 1 (.t 1) (.t 39)), none⟩])
    (.seq (.ops [⟨(some 40), (.mv (.t 8)), none⟩,
      ⟨(some 41), (.un .not (.t 40)), none⟩])
    (.cond (.t 41)
      (.seq (.ops [⟨(some 6), (.mv (.k (B false))), none⟩])
      .ret)
      .skip))))))
    .skip))))
  (.ops [⟨(some 42), (.bin .add (.t 17) (.k (I 1))), none⟩,
    ⟨(some 17), (.mv (.t 42)), none⟩]))))
theorem w75L0 {x : Cx} {Q : QT} {ks : List Kont} {fr : Fr} {H : AHeap} {ms : List Nat} : W x Q c75L0 ks fr H ms = W x Q (.seq (.ops [⟨(some 18), (.bin .lss (.t 17) (.t 16)), none⟩])
    (.seq (.cond (.t 18)
      .skip
      (.exit 0))
    (.seq (.block 1 (.seq (.ops [⟨(some 19), (.mv (.t 17)), none⟩,
      ⟨(some 7), (.mv (.t 19)), none⟩])
    (.seq (.ops [⟨(some 20), (.mv (.t 0)), none⟩,
      ⟨(some 21), (.mv (.t 7)), none⟩,
      ⟨(some 22), (.bin .shr (.t 20) (.t 21)), none⟩,
      ⟨(some 23), (.bin .and (.t 22) (.k (I 1))), none⟩,
      ⟨(some 24), (.bin .eql (.t 23) (.k (I 0))), none⟩])
    (.cond (.t 24)
      (.seq (.ops [⟨(some 25), (.load false 1 (.t 1)), none⟩,
        ⟨(some 26), (.mv (.t 7)), none⟩,
        ⟨(some 27), (.bslice 1 1 [(I 0)] [(0, 1, (.t 26))]), none⟩,
        ⟨(some 28), (.append 1 8 (.t 25) (.t 27)), none⟩,
        ⟨none, (.store 1 (.t 1) (.t 28)), none⟩])
      (.seq (.draw 0 [] (.early 1 ⟨(some 29), (.load false 1 (.t 4)), none⟩
        (.early 1 ⟨(some 30), (.mv (.t 0)), none⟩
        (.early 1 ⟨(some 31), (.mv (.t 7)), none⟩
        (.early 1 ⟨(some 32), (.bin .shl (.k (I 1)) (.t 31)), none⟩
        (.early 1 ⟨(some 33), (.bin .or (.t 30) (.t 32)), none⟩
        (.step 0 0 ⟨(some 34), (.call (.t 29) [(.t 33)]), none⟩
        (.early 0 ⟨(some 8), (.mv (.t 34)), none⟩
        .done))))))))
      (.keep [0, 1, 4, 8, 16, 17] (.seq (.ops [⟨(some 35), (.load false 1 (.t 1)), none⟩,
        ⟨(some 36), (.load false 1 (.t 1)), none⟩,
        ⟨(some 37), (.len (.t 36)), none⟩,
        ⟨(some 38), (.bin .sub (.t 37) (.k (I 1))), none⟩,
        ⟨(some 39), (.slS 1 (.t 35) none (some (.t 38)) none), none⟩,
        ⟨none, (.store 1 (.t 1) (.t 39)), none⟩])
      (.seq (.ops [⟨(some 40), (.mv (.t 8)), none⟩,
        ⟨(some 41), (.un .not (.t 40)), none⟩])
      (.cond (.t 41)
        (.seq (.ops [⟨(some 6), (.mv (.k (B false))), none⟩])
        .ret)
        .skip))))))
      .skip))))
    (.ops [⟨(some 42), (.bin .add (.t 17) (.k (I 1))), none⟩,
      ⟨(some 17), (.mv (.t 42)), none⟩])))) ks fr H ms := rfl
def c75 : ICode :=
  (.seq (.ops [⟨(some 6), (.mv (.k (B false))), none⟩])
  (.seq (.seq (.ops [⟨(some 9), (.load false 1 (.t 1)), none⟩,
    ⟨(some 10), (.len (.t 9)), none⟩,
    ⟨(some 11), (.load false 1 (.t 2)), none⟩,
    ⟨(some 12), (.bin .eql (.t 10) (.t 11)), none⟩])
  (.cond (.t 12)
    (.seq (.ops [⟨(some 13), (.load false 1 (.t 3)), none⟩,
      ⟨(some 14), (.load false 1 (.t 1)), none⟩,
      ⟨(some 15), (.call (.t 13) [(.t 14)]), none⟩,
      ⟨(some 6), (.mv (.t 15)), none⟩])
    .ret)
    .skip))
  (.seq (.seq (.ops [⟨(some 16), (.load false 1 (.t 2)), none⟩,
    ⟨(some 17), (.mv (.k (I 0))), none⟩])
  (.block 0 (.loop c75L0)))
  c75T1)))
theorem w75 {x : Cx} {Q : QT} {ks : List Kont} {fr : Fr} {H : AHeap} {ms : List Nat} : W x Q c75 ks fr H ms = W x Q (.seq (.ops [⟨(some 6), (.mv (.k (B false))), none⟩])
    (.seq (.seq (.ops [⟨(some 9), (.load false 1 (.t 1)), none⟩,
      ⟨(some 10), (.len (.t 9)), none⟩,
      ⟨(some 11), (.load false 1 (.t 2)), none⟩,
      ⟨(some 12), (.bin .eql (.t 10) (.t 11)), none⟩])
    (.cond (.t 12)
      (.seq (.ops [⟨(some 13), (.load false 1 (.t 3)), none⟩,
        ⟨(some 14), (.load false 1 (.t 1)), none⟩,
        ⟨(some 15), (.call (.t 13) [(.t 14)]), none⟩,
        ⟨(some 6), (.mv (.t 15)), none⟩])
      .ret)
      .skip))
    (.seq (.seq (.ops [⟨(some 16), (.load false 1 (.t 2)), none⟩,
      ⟨(some 17), (.mv (.k (I 0))), none⟩])
    (.block 0 (.loop c75L0)))
    c75T1))) ks fr H ms := rfl
def r75 : List IRes := [(.tmp 6)]
theorem t75 : Try.f75.body.bind (trCode Try.prog Try.f75.ntmps) = some (strip c75) := by kernel_rfl
theorem q75 : trRes Try.prog Try.f75.results.toList = some r75 := by kernel_rfl
theorem fn75 : Try.prog.funcs[75]? = some Try.f75 := by kernel_rfl
theorem nn75 : (Try.f75.name == "runtime.NumGoroutine") = false := by kernel_rfl
theorem nt75 : Try.f75.ntmps = 43 := by kernel_rfl
def c65 : ICode :=
  (.seq (.ops [⟨(some 1), (.box (.t 0)), none⟩,
    ⟨(some 2), (.mv (.k (.val .nilFunc))), none⟩])
  (.seq (.ops [⟨(some 3), (.mkfn (.func 76) [] [(.t 1)]), none⟩,
    ⟨(some 2), (.mv (.t 3)), none⟩])
  .ret))
theorem w65 {x : Cx} {Q : QT} {ks : List Kont} {fr : Fr} {H : AHeap} {ms : List Nat} : W x Q c65 ks fr H ms = W x Q (.seq (.ops [⟨(some 1), (.box (.t 0)), none⟩,
      ⟨(some 2), (.mv (.k (.val .nilFunc))), none⟩])
    (.seq (.ops [⟨(some 3), (.mkfn (.func 76) [] [(.t 1)]), none⟩,
      ⟨(some 2), (.mv (.t 3)), none⟩])
    .ret)) ks fr H ms := rfl
def r65 : List IRes := [(.tmp 2)]
theorem t65 : Try.f65.body.bind (trCode Try.prog Try.f65.ntmps) = some (strip c65) := by kernel_rfl
theorem q65 : trRes Try.prog Try.f65.results.toList = some r65 := by kernel_rfl
theorem fn65 : Try.prog.funcs[65]? = some Try.f65 := by kernel_rfl
theorem nn65 : (Try.f65.name == "runtime.NumGoroutine") = false := by kernel_rfl
theorem nt65 : Try.f65.ntmps = 4 := by kernel_rfl
def c76R0a : ICode :=
  (.ops [⟨(some 4), (.mv (.t 9)), none⟩])
theorem w76R0a {x : Cx} {Q : QT} {ks : List Kont} {fr : Fr} {H : AHeap} {ms : List Nat} : W x Q c76R0a ks fr H ms = W x Q (.ops [⟨(some 4), (.mv (.t 9)), none⟩]) ks fr H ms := rfl
theorem t76R0a : trCode Try.prog 19 (asOf Try.f76 0) = some (strip c76R0a) := by kernel_rfl
def c76R0b : ICode :=
  (.block 1 (.seq (.ops [⟨(some 10), (.mv (.t 4)), none⟩,
    ⟨(some 11), (.load false 1 (.t 3)), none⟩,
    ⟨(some 12), (.call (.k (.fn (.func 49) [] [])) [(.t 10), (.t 11)]), none⟩,
    ⟨(some 13), (.mv (.t 12)), none⟩,
    ⟨(some 14), (.load false 1 (.t 2)), (some (13, true))⟩,
    ⟨(some 15), (.mv (.t 4)), (some (13, true))⟩,
    ⟨(some 16), (.call (.t 14) [(.t 15)]), (some (13, true))⟩,
    ⟨(some 17), (.un .not (.t 16)), (some (13, true))⟩,
    ⟨(some 18), (.pick (.t 13) (.t 17) (.k (B false))), none⟩])
  (.cond (.t 18)
    .ret
    .skip)))
theorem w76R0b {x : Cx} {Q : QT} {ks : List Kont} {fr : Fr} {H : AHeap} {ms : List Nat} : W x Q c76R0b ks fr H ms = W x Q (.block 1 (.seq (.ops [⟨(some 10), (.mv (.t 4)), none⟩,
      ⟨(some 11), (.load false 1 (.t 3)), none⟩,
      ⟨(some 12), (.call (.k (.fn (.func 49) [] [])) [(.t 10), (.t 11)]), none⟩,
      ⟨(some 13), (.mv (.t 12)), none⟩,
      ⟨(some 14), (.load false 1 (.t 2)), (some (13, true))⟩,
      ⟨(some 15), (.mv (.t 4)), (some (13, true))⟩,
      ⟨(some 16), (.call (.t 14) [(.t 15)]), (some (13, true))⟩,
      ⟨(some 17), (.un .not (.t 16)), (some (13, true))⟩,
      ⟨(some 18), (.pick (.t 13) (.t 17) (.k (B false))), none⟩])
    (.cond (.t 18)
      .ret
      .skip))) ks fr H ms := rfl
theorem t76R0b : trCode Try.prog 19 (bdOf Try.f76 0) = some (strip c76R0b) := by kernel_rfl
noncomputable def c76 : ICode :=
  (.seq (.ops [⟨(some 2), (.box (.t 0)), none⟩])
  (.seq (.ops [⟨(some 5), (.load false 1 (.t 1)), none⟩,
    ⟨(some 6), (.call (.k (.fn (.func 50) [] [])) [(.t 5)]), none⟩,
    ⟨(some 3), (.alloc [nilSl]), none⟩,
    ⟨none, (.store 1 (.t 3) (.t 6)), none⟩])
  (.seq (.ops [⟨(some 7), (.load false 1 (.t 1)), none⟩,
    ⟨(some 8), (.call (.k (.fn (.func 64) [] [])) [(.t 7)]), none⟩])
  (.block 0 (.range (.t 8) [9] (asOf Try.f76 0) (bdOf Try.f76 0))))))
theorem w76 {x : Cx} {Q : QT} {ks : List Kont} {fr : Fr} {H : AHeap} {ms : List Nat} : W x Q c76 ks fr H ms = W x Q (.seq (.ops [⟨(some 2), (.box (.t 0)), none⟩])
    (.seq (.ops [⟨(some 5), (.load false 1 (.t 1)), none⟩,
      ⟨(some 6), (.call (.k (.fn (.func 50) [] [])) [(.t 5)]), none⟩,
      ⟨(some 3), (.alloc [nilSl]), none⟩,
      ⟨none, (.store 1 (.t 3) (.t 6)), none⟩])
    (.seq (.ops [⟨(some 7), (.load false 1 (.t 1)), none⟩,
      ⟨(some 8), (.call (.k (.fn (.func 64) [] [])) [(.t 7)]), none⟩])
    (.block 0 (.range (.t 8) [9] (asOf Try.f76 0) (bdOf Try.f76 0)))))) ks fr H ms := rfl
def r76 : List IRes := []
theorem t76 : Try.f76.body.bind (trCode Try.prog Try.f76.ntmps) = some (strip c76) := by kernel_rfl
theorem q76 : trRes Try.prog Try.f76.results.toList = some r76 := by kernel_rfl
theorem fn76 : Try.prog.funcs[76]? = some Try.f76 := by kernel_rfl
theorem nn76 : (Try.f76.name == "runtime.NumGoroutine") = false := by kernel_rfl
theorem nt76 : Try.f76.ntmps = 19 := by kernel_rfl
def c58R0a : ICode :=
  (.ops [⟨(some 6), (.mv (.t 9)), none⟩])
theorem w58R0a {x : Cx} {Q : QT} {ks : List Kont} {fr : Fr} {H : AHeap} {ms : List Nat} : W x Q c58R0a ks fr H ms = W x Q (.ops [⟨(some 6), (.mv (.t 9)), none⟩]) ks fr H ms := rfl
theorem t58R0a : trCode Try.prog 16 (asOf Try.f58 0) = some (strip c58R0a) := by kernel_rfl
def c58R0b : ICode :=
  (.block 1 (.seq (.ops [⟨(some 10), (.load false 1 (.t 3)), none⟩,
    ⟨(some 11), (.mv (.t 6)), none⟩,
    ⟨(some 12), (.call (.t 10) [(.t 11)]), none⟩])
  (.cond (.t 12)
    (.ops [⟨(some 13), (.load false 1 (.t 5)), none⟩,
      ⟨(some 14), (.bin .add (.t 13) (.k (I 1))), none⟩,
      ⟨none, (.store 1 (.t 5) (.t 14)), none⟩])
    .skip)))
theorem w58R0b {x : Cx} {Q : QT} {ks : List Kont} {fr : Fr} {H : AHeap} {ms : List Nat} : W x Q c58R0b ks fr H ms = W x Q (.block 1 (.seq (.ops [⟨(some 10), (.load false 1 (.t 3)), none⟩,
      ⟨(some 11), (.mv (.t 6)), none⟩,
      ⟨(some 12), (.call (.t 10) [(.t 11)]), none⟩])
    (.cond (.t 12)
      (.ops [⟨(some 13), (.load false 1 (.t 5)), none⟩,
        ⟨(some 14), (.bin .add (.t 13) (.k (I 1))), none⟩,
        ⟨none, (.store 1 (.t 5) (.t 14)), none⟩])
      .skip))) ks fr H ms := rfl
theorem t58R0b : trCode Try.prog 16 (bdOf Try.f58 0) = some (strip c58R0b) := by kernel_rfl
def c58T0 : ICode :=
  (.seq (.ops [⟨(some 15), (.load false 1 (.t 5)), none⟩,
    ⟨(some 4), (.mv (.t 15)), none⟩])
  .ret)
theorem w58T0 {x : Cx} {Q : QT} {ks : List Kont} {fr : Fr} {H : AHeap} {ms : List Nat} : W x Q c58T0 ks fr H ms = W x Q (.seq (.ops [⟨(some 15), (.load false 1 (.t 5)), none⟩,
      ⟨(some 4), (.mv (.t 15)), none⟩])
    .ret) ks fr H ms := rfl
noncomputable def c58 : ICode :=
  (.seq (.ops [⟨(some 3), (.box (.t 1)), none⟩,
    ⟨(some 4), (.mv (.k (I 0))), none⟩])
  (.seq (.ops [⟨(some 5), (.alloc [(I 0)]), none⟩,
    ⟨none, (.store 1 (.t 5) (.k (I 0))), none⟩])
  (.seq (.seq (.ops [⟨(some 7), (.mv (.t 0)), none⟩,
    ⟨(some 8), (.call (.k (.fn (.func 65) [] [])) [(.t 7)]), none⟩])
  (.block 0 (.range (.t 8) [9] (asOf Try.f58 0) (bdOf Try.f58 0))))
  c58T0)))
theorem w58 {x : Cx} {Q : QT} {ks : List Kont} {fr : Fr} {H : AHeap} {ms : List Nat} : W x Q c58 ks fr H ms = W x Q (.seq (.ops [⟨(some 3), (.box (.t 1)), none⟩,
      ⟨(some 4), (.mv (.k (I 0))), none⟩])
    (.seq (.ops [⟨(some 5), (.alloc [(I 0)]), none⟩,
      ⟨none, (.store 1 (.t 5) (.k (I 0))), none⟩])
    (.seq (.seq (.ops [⟨(some 7), (.mv (.t 0)), none⟩,
      ⟨(some 8), (.call (.k (.fn (.func 65) [] [])) [(.t 7)]), none⟩])
    (.block 0 (.range (.t 8) [9] (asOf Try.f58 0) (bdOf Try.f58 0))))
    c58T0))) ks fr H ms := rfl
def r58 : List IRes := [(.tmp 4)]
theorem t58 : Try.f58.body.bind (trCode Try.prog Try.f58.ntmps) = some (strip c58) := by kernel_rfl
theorem q58 : trRes Try.prog Try.f58.results.toList = some r58 := by kernel_rfl
theorem fn58 : Try.prog.funcs[58]? = some Try.f58 := by kernel_rfl
theorem nn58 : (Try.f58.name == "runtime.NumGoroutine") = false := by kernel_rfl
theorem nt58 : Try.f58.ntmps = 16 := by kernel_rfl
def c57 : ICode :=
  (.seq (.ops [⟨(some 2), (.mv (.k (B false))), none⟩])
  (.seq (.ops [⟨(some 3), (.mv (.t 0)), none⟩,
    ⟨(some 4), (.bin .geq (.t 3) (.k (I 1))), none⟩,
    ⟨(some 5), (.mv (.t 4)), none⟩,
    ⟨(some 6), (.mv (.t 0)), (some (5, true))⟩,
    ⟨(some 7), (.bin .leq (.t 6) (.k (I 7))), (some (5, true))⟩,
    ⟨(some 8), (.pick (.t 5) (.t 7) (.k (B false))), none⟩,
    ⟨(some 2), (.mv (.t 8)), none⟩])
  .ret))
theorem w57 {x : Cx} {Q : QT} {ks : List Kont} {fr : Fr} {H : AHeap} {ms : List Nat} : W x Q c57 ks fr H ms = W x Q (.seq (.ops [⟨(some 2), (.mv (.k (B false))), none⟩])
    (.seq (.ops [⟨(some 3), (.mv (.t 0)), none⟩,
      ⟨(some 4), (.bin .geq (.t 3) (.k (I 1))), none⟩,
      ⟨(some 5), (.mv (.t 4)), none⟩,
      ⟨(some 6), (.mv (.t 0)), (some (5, true))⟩,
      ⟨(some 7), (.bin .leq (.t 6) (.k (I 7))), (some (5, true))⟩,
      ⟨(some 8), (.pick (.t 5) (.t 7) (.k (B false))), none⟩,
      ⟨(some 2), (.mv (.t 8)), none⟩])
    .ret)) ks fr H ms := rfl
def r57 : List IRes := [(.tmp 2)]
theorem t57 : Try.f57.body.bind (trCode Try.prog Try.f57.ntmps) = some (strip c57) := by kernel_rfl
theorem q57 : trRes Try.prog Try.f57.results.toList = some r57 := by kernel_rfl
theorem fn57 : Try.prog.funcs[57]? = some Try.f57 := by kernel_rfl
theorem nn57 : (Try.f57.name == "runtime.NumGoroutine") = false := by kernel_rfl
theorem nt57 : Try.f57.ntmps = 9 := by kernel_rfl
def c24 : ICode :=
  (.seq (.ops [⟨(some 2), (.mv (.k (I 0))), none⟩,
    ⟨(some 3), (.mv (.k (I 0))), none⟩])
  (.seq (.seq (.ops [⟨(some 4), (.mv (.t 0)), none⟩,
    ⟨(some 5), (.call (.k (.fn (.func 57) [] [])) [(.t 4)]), none⟩,
    ⟨(some 6), (.un .not (.t 5)), none⟩])
  (.cond (.t 6)
    (.seq (.ops [⟨(some 2), (.mv (.k (I 0))), none⟩,
      ⟨(some 3), (.mv (.k (I 2))), none⟩])
    .ret)
    .skip))
  (.seq (.ops [⟨(some 7), (.mv (.t 0)), none⟩,
    ⟨(some 8), (.call (.k (.fn (.func 58) [] [])) [(.t 7), (.k (.fn (.func 59) [] []))]), none⟩,
    ⟨(some 2), (.mv (.t 8)), none⟩,
    ⟨(some 3), (.mv (.k (I 0))), none⟩])
  .ret)))
theorem w24 {x : Cx} {Q : QT} {ks : List Kont} {fr : Fr} {H : AHeap} {ms : List Nat} : W x Q c24 ks fr H ms = W x Q (.seq (.ops [⟨(some 2), (.mv (.k (I 0))), none⟩,
      ⟨(some 3), (.mv (.k (I 0))), none⟩])
    (.seq (.seq (.ops [⟨(some 4), (.mv (.t 0)), none⟩,
      ⟨(some 5), (.call (.k (.fn (.func 57) [] [])) [(.t 4)]), none⟩,
      ⟨(some 6), (.un .not (.t 5)), none⟩])
    (.cond (.t 6)
      (.seq (.ops [⟨(some 2), (.mv (.k (I 0))), none⟩,
        ⟨(some 3), (.mv (.k (I 2))), none⟩])
      .ret)
      .skip))
    (.seq (.ops [⟨(some 7), (.mv (.t 0)), none⟩,
      ⟨(some 8), (.call (.k (.fn (.func 58) [] [])) [(.t 7), (.k (.fn (.func 59) [] []))]), none⟩,
      ⟨(some 2), (.mv (.t 8)), none⟩,
      ⟨(some 3), (.mv (.k (I 0))), none⟩])
    .ret))) ks fr H ms := rfl
def r24 : List IRes := [(.tmp 2), (.tmp 3)]
theorem t24 : Try.f24.body.bind (trCode Try.prog Try.f24.ntmps) = some (strip c24) := by kernel_rfl
theorem q24 : trRes Try.prog Try.f24.results.toList = some r24 := by kernel_rfl
theorem fn24 : Try.prog.funcs[24]? = some Try.f24 := by kernel_rfl
theorem nn24 : (Try.f24.name == "runtime.NumGoroutine") = false := by kernel_rfl
theorem nt24 : Try.f24.ntmps = 9 := by kernel_rfl
def c59 : ICode :=
  (.seq (.ops [⟨(some 2), (.mv (.k (B false))), none⟩])
  (.seq (.ops [⟨(some 2), (.mv (.k (B true))), none⟩])
  .ret))
theorem w59 {x : Cx} {Q : QT} {ks : List Kont} {fr : Fr} {H : AHeap} {ms : List Nat} : W x Q c59 ks fr H ms = W x Q (.seq (.ops [⟨(some 2), (.mv (.k (B false))), none⟩])
    (.seq (.ops [⟨(some 2), (.mv (.k (B true))), none⟩])
    .ret)) ks fr H ms := rfl
def r59 : List IRes := [(.tmp 2)]
theorem t59 : Try.f59.body.bind (trCode Try.prog Try.f59.ntmps) = some (strip c59) := by kernel_rfl
theorem q59 : trRes Try.prog Try.f59.results.toList = some r59 := by kernel_rfl
theorem fn59 : Try.prog.funcs[59]? = some Try.f59 := by kernel_rfl
theorem nn59 : (Try.f59.name == "runtime.NumGoroutine") = false := by kernel_rfl
theorem nt59 : Try.f59.ntmps = 3 := by kernel_rfl
def c18 : ICode :=
  (.seq (.ops [⟨(some 0), (.mv (.k (B false))), none⟩])
  (.seq (.ops [⟨(some 4), (.call (.k (.fn (.func 24) [] [])) [(.k (I 3))]), none⟩,
    ⟨(some 3), (.mv (.t 4)), none⟩,
    ⟨(some 5), (.ext (.t 3) 0), none⟩,
    ⟨(some 6), (.ext (.t 3) 1), none⟩,
    ⟨(some 1), (.mv (.t 5)), none⟩,
    ⟨(some 2), (.mv (.t 6)), none⟩])
  (.seq (.ops [⟨(some 7), (.mv (.t 1)), none⟩,
    ⟨(some 8), (.bin .eql (.t 7) (.k (I 6))), none⟩,
    ⟨(some 9), (.mv (.t 8)), none⟩,
    ⟨(some 10), (.mv (.t 2)), (some (9, true))⟩,
    ⟨(some 11), (.bin .eql (.t 10) (.k (I 0))), (some (9, true))⟩,
    ⟨(some 12), (.pick (.t 9) (.t 11) (.k (B false))), none⟩,
    ⟨(some 0), (.mv (.t 12)), none⟩])
  .ret)))
theorem w18 {x : Cx} {Q : QT} {ks : List Kont} {fr : Fr} {H : AHeap} {ms : List Nat} : W x Q c18 ks fr H ms = W x Q (.seq (.ops [⟨(some 0), (.mv (.k (B false))), none⟩])
    (.seq (.ops [⟨(some 4), (.call (.k (.fn (.func 24) [] [])) [(.k (I 3))]), none⟩,
      ⟨(some 3), (.mv (.t 4)), none⟩,
      ⟨(some 5), (.ext (.t 3) 0), none⟩,
      ⟨(some 6), (.ext (.t 3) 1), none⟩,
      ⟨(some 1), (.mv (.t 5)), none⟩,
      ⟨(some 2), (.mv (.t 6)), none⟩])
    (.seq (.ops [⟨(some 7), (.mv (.t 1)), none⟩,
      ⟨(some 8), (.bin .eql (.t 7) (.k (I 6))), none⟩,
      ⟨(some 9), (.mv (.t 8)), none⟩,
      ⟨(some 10), (.mv (.t 2)), (some (9, true))⟩,
      ⟨(some 11), (.bin .eql (.t 10) (.k (I 0))), (some (9, true))⟩,
      ⟨(some 12), (.pick (.t 9) (.t 11) (.k (B false))), none⟩,
      ⟨(some 0), (.mv (.t 12)), none⟩])
    .ret))) ks fr H ms := rfl
def r18 : List IRes := [(.tmp 0)]
theorem t18 : Try.f18.body.bind (trCode Try.prog Try.f18.ntmps) = some (strip c18) := by kernel_rfl
theorem q18 : trRes Try.prog Try.f18.results.toList = some r18 := by kernel_rfl
theorem fn18 : Try.prog.funcs[18]? = some Try.f18 := by kernel_rfl
theorem nn18 : (Try.f18.name == "runtime.NumGoroutine") = false := by kernel_rfl
theorem nt18 : Try.f18.ntmps = 13 := by kernel_rfl
def c3 : ICode :=
  (.seq (.ops [⟨(some 4), (.mv (.k (B false))), none⟩])
  (.seq (.ops [⟨(some 9), (.mv (.t 0)), none⟩,
    ⟨(some 10), (.call (.k (.fn (.func 16) [] [])) [(.t 9)]), none⟩,
    ⟨(some 11), (.call (.k (.fn (.func 15) [] [])) [(.t 10)]), none⟩,
    ⟨(some 8), (.mv (.t 11)), none⟩,
    ⟨(some 12), (.ext (.t 8) 0), none⟩,
    ⟨(some 13), (.ext (.t 8) 1), none⟩,
    ⟨(some 5), (.mv (.t 12)), none⟩,
    ⟨(some 6), (.mv (.t 13)), none⟩])
  (.seq (.seq (.ops [⟨(some 14), (.mv (.t 6)), none⟩,
    ⟨(some 15), (.bin .neq (.t 14) (.k (I 0))), none⟩,
    ⟨(some 16), (.mv (.t 15)), none⟩,
    ⟨(some 17), (.mv (.t 0)), (some (16, false))⟩,
    ⟨(some 18), (.call (.k (.fn (.func 17) [] [])) [(.t 17)]), (some (16, false))⟩,
    ⟨(some 19), (.un .not (.t 18)), (some (16, false))⟩,
    ⟨(some 20), (.pick (.t 16) (.k (B true)) (.t 19)), none⟩])
  (.cond (.t 20)
    (.seq (.ops [⟨(some 21), (.mv (.t 6)), none⟩,
      ⟨(some 22), (.bin .eql (.t 21) (.k (I 2))), none⟩,
      ⟨(some 23), (.mv (.t 22)), none⟩,
      ⟨(some 24), (.call (.k (.fn (.func 18) [] [])) []), (some (23, true))⟩,
      ⟨(some 25), (.pick (.t 23) (.t 24) (.k (B false))), none⟩,
      ⟨(some 4), (.mv (.t 25)), none⟩])
    .ret)
    .skip))
  (.seq (.ops [⟨(some 26), (.mv (.t 1)), none⟩,
    ⟨(some 27), (.conv .u64 (.t 26)), none⟩,
    ⟨(some 28), (.mv (.t 0)), none⟩,
    ⟨(some 29), (.len (.t 28)), none⟩,
    ⟨(some 30), (.conv .u64 (.t 29)), none⟩,
    ⟨(some 31), (.bin .rem (.t 27) (.t 30)), none⟩,
    ⟨(some 32), (.conv .i64 (.t 31)), none⟩,
    ⟨(some 1), (.mv (.t 32)), none⟩])
  (.seq (.draw 1 [] (.early 1 ⟨(some 34), (.mv (.t 0)), none⟩
    (.early 1 ⟨(some 35), (.mv (.t 1)), none⟩
    (.early 1 ⟨(some 36), (.slS 1 (.t 34) (some (.t 35)) none none), none⟩
    (.early 1 ⟨(some 38), (.mv (.t 0)), none⟩
    (.early 1 ⟨(some 39), (.mv (.t 1)), none⟩
    (.early 1 ⟨(some 40), (.slS 1 (.t 38) none (some (.t 39)) none), none⟩
    (.step 0 1 ⟨(some 37), (.call (.k (.fn (.func 16) [] [])) [(.t 36)]), none⟩
    (.step 0 0 ⟨(some 41), (.append 1 8 (.t 37) (.t 40)), none⟩
    (.step 1 0 ⟨(some 42), (.call (.k (.fn (.func 15) [] [])) [(.t 41)]), none⟩
    (.early 0 ⟨(some 33), (.mv (.t 42)), none⟩
    (.early 1 ⟨(some 43), (.ext (.t 33) 0), none⟩
    (.early 1 ⟨(some 44), (.ext (.t 33) 1), none⟩
    (.early 1 ⟨(some 7), (.mv (.t 43)), none⟩
    (.early 0 ⟨(some 6), (.mv (.t 44)), none⟩
    .done)))))))))))))))
  (.keep [5, 6, 7] (.seq (.ops [⟨(some 45), (.mv (.t 6)), none⟩,
    ⟨(some 46), (.bin .eql (.t 45) (.k (I 0))), none⟩,
    ⟨(some 47), (.mv (.t 46)), none⟩,
    ⟨(some 48), (.mv (.t 5)), (some (47, true))⟩,
    ⟨(some 49), (.mv (.t 7)), (some (47, true))⟩,
    ⟨(some 50), (.eqb false (.t 48) (.t 49)), (some (47, true))⟩,
    ⟨(some 51), (.pick (.t 47) (.t 50) (.k (B false))), none⟩,
    ⟨(some 52), (.mv (.t 51)), none⟩,
    ⟨(some 53), (.call (.k (.fn (.func 18) [] [])) []), (some (52, true))⟩,
    ⟨(some 54), (.pick (.t 52) (.t 53) (.k (B false))), none⟩,
    ⟨(some 4), (.mv (.t 54)), none⟩])
  .ret)))))))
theorem w3 {x : Cx} {Q : QT} {ks : List Kont} {fr : Fr} {H : AHeap} {ms : List Nat} : W x Q c3 ks fr H ms = W x Q (.seq (.ops [⟨(some 4), (.mv (.k (B false))), none⟩])
    (.seq (.ops [⟨(some 9), (.mv (.t 0)), none⟩,
      ⟨(some 10), (.call (.k (.fn (.func 16) [] [])) [(.t 9)]), none⟩,
      ⟨(some 11), (.call (.k (.fn (.func 15) [] [])) [(.t 10)]), none⟩,
      ⟨(some 8), (.mv (.t 11)), none⟩,
      ⟨(some 12), (.ext (.t 8) 0), none⟩,
      ⟨(some 13), (.ext (.t 8) 1), none⟩,
      ⟨(some 5), (.mv (.t 12)), none⟩,
      ⟨(some 6), (.mv (.t 13)), none⟩])
    (.seq (.seq (.ops [⟨(some 14), (.mv (.t 6)), none⟩,
      ⟨(some 15), (.bin .neq (.t 14) (.k (I 0))), none⟩,
      ⟨(some 16), (.mv (.t 15)), none⟩,
      ⟨(some 17), (.mv (.t 0)), (some (16, false))⟩,
      ⟨(some 18), (.call (.k (.fn (.func 17) [] [])) [(.t 17)]), (some (16, false))⟩,
      ⟨(some 19), (.un .not (.t 18)), (some (16, false))⟩,
      ⟨(some 20), (.pick (.t 16) (.k (B true)) (.t 19)), none⟩])
    (.cond (.t 20)
      (.seq (.ops [⟨(some 21), (.mv (.t 6)), none⟩,
        ⟨(some 22), (.bin .eql (.t 21) (.k (I 2))), none⟩,
        ⟨(some 23), (.mv (.t 22)), none⟩,
        ⟨(some 24), (.call (.k (.fn (.func 18) [] [])) []), (some (23, true))⟩,
        ⟨(some 25), (.pick (.t 23) (.t 24) (.k (B false))), none⟩,
        ⟨(some 4), (.mv (.t 25)), none⟩])
      .ret)
      .skip))
    (.seq (.ops [⟨(some 26), (.mv (.t 1)), none⟩,
      ⟨(some 27), (.conv .u64 (.t 26)), none⟩,
      ⟨(some 28), (.mv (.t 0)), none⟩,
      ⟨(some 29), (.len (.t 28)), none⟩,
      ⟨(some 30), (.conv .u64 (.t 29)), none⟩,
      ⟨(some 31), (.bin .rem (.t 27) (.t 30)), none⟩,
      ⟨(some 32), (.conv .i64 (.t 31)), none⟩,
      ⟨(some 1), (.mv (.t 32)), none⟩])
    (.seq (.draw 1 [] (.early 1 ⟨(some 34), (.mv (.t 0)), none⟩
      (.early 1 ⟨(some 35), (.mv (.t 1)), none⟩
      (.early 1 ⟨(some 36), (.slS 1 (.t 34) (some (.t 35)) none none), none⟩
      (.early 1 ⟨(some 38), (.mv (.t 0)), none⟩
      (.early 1 ⟨(some 39), (.mv (.t 1)), none⟩
      (.early 1 ⟨(some 40), (.slS 1 (.t 38) none (some (.t 39)) none), none⟩
      (.step 0 1 ⟨(some 37), (.call (.k (.fn (.func 16) [] [])) [(.t 36)]), none⟩
      (.step 0 0 ⟨(some 41), (.append 1 8 (.t 37) (.t 40)), none⟩
      (.step 1 0 ⟨(some 42), (.call (.k (.fn (.func 15) [] [])) [(.t 41)]), none⟩
      (.early 0 ⟨(some 33), (.mv (.t 42)), none⟩
      (.early 1 ⟨(some 43), (.ext (.t 33) 0), none⟩
      (.early 1 ⟨(some 44), (.ext (.t 33) 1), none⟩
      (.early 1 ⟨(some 7), (.mv (.t 43)), none⟩
      (.early 0 ⟨(some 6), (.mv (.t 44)), none⟩
      .done)))))))))))))))
    (.keep [5, 6, 7] (.seq (.ops [⟨(some 45), (.mv (.t 6)), none⟩,
      ⟨(some 46), (.bin .eql (.t 45) (.k (I 0))), none⟩,
      ⟨(some 47), (.mv (.t 46)), none⟩,
      ⟨(some 48), (.mv (.t 5)), (some (47, true))⟩,
      ⟨(some 49), (.mv (.t 7)), (some (47, true))⟩,
      ⟨(some 50), (.eqb false (.t 48) (.t 49)), (some (47, true))⟩,
      ⟨(some 51), (.pick (.t 47) (.t 50) (.k (B false))), none⟩,
      ⟨(some 52), (.mv (.t 51)), none⟩,
      ⟨(some 53), (.call (.k (.fn (.func 18) [] [])) []), (some (52, true))⟩,
      ⟨(some 54), (.pick (.t 52) (.t 53) (.k (B false))), none⟩,
      ⟨(some 4), (.mv (.t 54)), none⟩])
    .ret))))))) ks fr H ms := rfl
def r3 : List IRes := [(.tmp 4)]
theorem t3 : Try.f3.body.bind ((trCodeX [(5, 8)]) Try.prog Try.f3.ntmps) = some (strip c3) := by kernel_rfl
theorem q3 : trRes Try.prog Try.f3.results.toList = some r3 := by kernel_rfl
theorem fn3 : Try.prog.funcs[3]? = some Try.f3 := by kernel_rfl
theorem nn3 : (Try.f3.name == "runtime.NumGoroutine") = false := by kernel_rfl
theorem nt3 : Try.f3.ntmps = 55 := by kernel_rfl
def c4 : ICode :=
  (.seq (.ops [⟨(some 2), (.mv (.k (B false))), none⟩])
  (.seq (.ops [⟨(some 10), (.mv (.t 0)), none⟩,
    ⟨(some 11), (.call (.k (.fn (.func 16) [] [])) [(.t 10)]), none⟩,
    ⟨(some 12), (.call (.k (.fn (.func 15) [] [])) [(.t 11)]), none⟩,
    ⟨(some 9), (.mv (.t 12)), none⟩,
    ⟨(some 13), (.ext (.t 9) 0), none⟩,
    ⟨(some 14), (.ext (.t 9) 1), none⟩,
    ⟨(some 3), (.mv (.t 13)), none⟩,
    ⟨(some 4), (.mv (.t 14)), none⟩])
  (.seq (.ops [⟨(some 16), (.mv (.t 0)), none⟩,
    ⟨(some 17), (.call (.k (.fn (.func 16) [] [])) [(.t 16)]), none⟩,
    ⟨(some 18), (.call (.k (.fn (.func 19) [] [])) [(.t 17)]), none⟩,
    ⟨(some 15), (.mv (.t 18)), none⟩,
    ⟨(some 19), (.ext (.t 15) 0), none⟩,
    ⟨(some 20), (.ext (.t 15) 1), none⟩,
    ⟨(some 5), (.alloc [(I 0), (I 0)]), none⟩,
    ⟨none, (.store 2 (.t 5) (.t 19)), none⟩,
    ⟨(some 6), (.mv (.t 20)), none⟩])
  (.seq (.seq (.ops [⟨(some 21), (.mv (.t 0)), none⟩,
    ⟨(some 22), (.call (.k (.fn (.func 17) [] [])) [(.t 21)]), none⟩,
    ⟨(some 23), (.un .not (.t 22)), none⟩])
  (.cond (.t 23)
    (.seq (.ops [⟨(some 24), (.mv (.t 3)), none⟩,
      ⟨(some 25), (.un .not (.t 24)), none⟩,
      ⟨(some 26), (.mv (.t 25)), none⟩,
      ⟨(some 27), (.load true 2 (.t 5)), (some (26, true))⟩,
      ⟨(some 28), (.build [(I 0), (I 0)] []), (some (26, true))⟩,
      ⟨(some 29), (.eqv false 2 (.t 27) (.t 28)), (some (26, true))⟩,
      ⟨(some 30), (.pick (.t 26) (.t 29) (.k (B false))), none⟩,
      ⟨(some 31), (.mv (.t 30)), none⟩,
      ⟨(some 32), (.mv (.t 4)), (some (31, true))⟩,
      ⟨(some 33), (.bin .eql (.t 32) (.k (I 2))), (some (31, true))⟩,
      ⟨(some 34), (.pick (.t 31) (.t 33) (.k (B false))), none⟩,
      ⟨(some 35), (.mv (.t 34)), none⟩,
      ⟨(some 36), (.mv (.t 6)), (some (35, true))⟩,
      ⟨(some 37), (.bin .eql (.t 36) (.k (I 2))), (some (35, true))⟩,
      ⟨(some 38), (.pick (.t 35) (.t 37) (.k (B false))), none⟩,
      ⟨(some 39), (.mv (.t 38)), none⟩,
      ⟨(some 40), (.call (.k (.fn (.func 18) [] [])) []), (some (39, true))⟩,
      ⟨(some 41), (.pick (.t 39) (.t 40) (.k (B false))), none⟩,
      ⟨(some 2), (.mv (.t 41)), none⟩])
    .ret)
    .skip))
  (.seq (.ops [⟨(some 43), (.mv (.t 0)), none⟩,
    ⟨(some 44), (.call (.k (.fn (.func 20) [] [])) [(.t 43)]), none⟩,
    ⟨(some 42), (.mv (.t 44)), none⟩,
    ⟨(some 45), (.ext (.t 42) 0), none⟩,
    ⟨(some 46), (.ext (.t 42) 1), none⟩,
    ⟨(some 7), (.alloc [(I 0), (I 0)]), none⟩,
    ⟨none, (.store 2 (.t 7) (.t 45)), none⟩,
    ⟨(some 8), (.mv (.t 46)), none⟩])
  (.seq (.ops [⟨(some 47), (.mv (.t 3)), none⟩,
    ⟨(some 48), (.mv (.t 0)), none⟩,
    ⟨(some 49), (.call (.k (.fn (.func 21) [] [])) [(.t 48)]), none⟩,
    ⟨(some 50), (.eqb false (.t 47) (.t 49)), none⟩,
    ⟨(some 51), (.mv (.t 50)), none⟩,
    ⟨(some 52), (.mv (.t 4)), (some (51, true))⟩,
    ⟨(some 53), (.bin .eql (.t 52) (.k (I 0))), (some (51, true))⟩,
    ⟨(some 54), (.pick (.t 51) (.t 53) (.k (B false))), none⟩,
    ⟨(some 55), (.mv (.t 54)), none⟩,
    ⟨(some 56), (.load true 2 (.t 5)), (some (55, true))⟩,
    ⟨(some 57), (.load true 2 (.t 7)), (some (55, true))⟩,
    ⟨(some 58), (.eqv false 2 (.t 56) (.t 57)), (some (55, true))⟩,
    ⟨(some 59), (.pick (.t 55) (.t 58) (.k (B false))), none⟩,
    ⟨(some 60), (.mv (.t 59)), none⟩,
    ⟨(some 61), (.mv (.t 6)), (some (60, true))⟩,
    ⟨(some 62), (.mv (.t 8)), (some (60, true))⟩,
    ⟨(some 63), (.bin .eql (.t 61) (.t 62)), (some (60, true))⟩,
    ⟨(some 64), (.pick (.t 60) (.t 63) (.k (B false))), none⟩,
    ⟨(some 65), (.mv (.t 64)), none⟩,
    ⟨(some 66), (.call (.k (.fn (.func 18) [] [])) []), (some (65, true))⟩,
    ⟨(some 67), (.pick (.t 65) (.t 66) (.k (B false))), none⟩,
    ⟨(some 2), (.mv (.t 67)), none⟩])
  .ret))))))
theorem w4 {x : Cx} {Q : QT} {ks : List Kont} {fr : Fr} {H : AHeap} {ms : List Nat} : W x Q c4 ks fr H ms = W x Q (.seq (.ops [⟨(some 2), (.mv (.k (B false))), none⟩])
    (.seq (.ops [⟨(some 10), (.mv (.t 0)), none⟩,
      ⟨(some 11), (.call (.k (.fn (.func 16) [] [])) [(.t 10)]), none⟩,
      ⟨(some 12), (.call (.k (.fn (.func 15) [] [])) [(.t 11)]), none⟩,
      ⟨(some 9), (.mv (.t 12)), none⟩,
      ⟨(some 13), (.ext (.t 9) 0), none⟩,
      ⟨(some 14), (.ext (.t 9) 1), none⟩,
      ⟨(some 3), (.mv (.t 13)), none⟩,
      ⟨(some 4), (.mv (.t 14)), none⟩])
    (.seq (.ops [⟨(some 16), (.mv (.t 0)), none⟩,
      ⟨(some 17), (.call (.k (.fn (.func 16) [] [])) [(.t 16)]), none⟩,
      ⟨(some 18), (.call (.k (.fn (.func 19) [] [])) [(.t 17)]), none⟩,
      ⟨(some 15), (.mv (.t 18)), none⟩,
      ⟨(some 19), (.ext (.t 15) 0), none⟩,
      ⟨(some 20), (.ext (.t 15) 1), none⟩,
      ⟨(some 5), (.alloc [(I 0), (I 0)]), none⟩,
      ⟨none, (.store 2 (.t 5) (.t 19)), none⟩,
      ⟨(some 6), (.mv (.t 20)), none⟩])
    (.seq (.seq (.ops [⟨(some 21), (.mv (.t 0)), none⟩,
      ⟨(some 22), (.call (.k (.fn (.func 17) [] [])) [(.t 21)]), none⟩,
      ⟨(some 23), (.un .not (.t 22)), none⟩])
    (.cond (.t 23)
      (.seq (.ops [⟨(some 24), (.mv (.t 3)), none⟩,
        ⟨(some 25), (.un .not (.t 24)), none⟩,
        ⟨(some 26), (.mv (.t 25)), none⟩,
        ⟨(some 27), (.load true 2 (.t 5)), (some (26, true))⟩,
        ⟨(some 28), (.build [(I 0), (I 0)] []), (some (26, true))⟩,
        ⟨(some 29), (.eqv false 2 (.t 27) (.t 28)), (some (26, true))⟩,
        ⟨(some 30), (.pick (.t 26) (.t 29) (.k (B false))), none⟩,
        ⟨(some 31), (.mv (.t 30)), none⟩,
        ⟨(some 32), (.mv (.t 4)), (some (31, true))⟩,
        ⟨(some 33), (.bin .eql (.t 32) (.k (I 2))), (some (31, true))⟩,
        ⟨(some 34), (.pick (.t 31) (.t 33) (.k (B false))), none⟩,
        ⟨(some 35), (.mv (.t 34)), none⟩,
        ⟨(some 36), (.mv (.t 6)), (some (35, true))⟩,
        ⟨(some 37), (.bin .eql (.t 36) (.k (I 2))), (some (35, true))⟩,
        ⟨(some 38), (.pick (.t 35) (.t 37) (.k (B false))), none⟩,
        ⟨(some 39), (.mv (.t 38)), none⟩,
        ⟨(some 40), (.call (.k (.fn (.func 18) [] [])) []), (some (39, true))⟩,
        ⟨(some 41), (.pick (.t 39) (.t 40) (.k (B false))), none⟩,
        ⟨(some 2), (.mv (.t 41)), none⟩])
      .ret)
      .skip))
    (.seq (.ops [⟨(some 43), (.mv (.t 0)), none⟩,
      ⟨(some 44), (.call (.k (.fn (.func 20) [] [])) [(.t 43)]), none⟩,
      ⟨(some 42), (.mv (.t 44)), none⟩,
      ⟨(some 45), (.ext (.t 42) 0), none⟩,
      ⟨(some 46), (.ext (.t 42) 1), none⟩,
      ⟨(some 7), (.alloc [(I 0), (I 0)]), none⟩,
      ⟨none, (.store 2 (.t 7) (.t 45)), none⟩,
      ⟨(some 8), (.mv (.t 46)), none⟩])
    (.seq (.ops [⟨(some 47), (.mv (.t 3)), none⟩,
      ⟨(some 48), (.mv (.t 0)), none⟩,
      ⟨(some 49), (.call (.k (.fn (.func 21) [] [])) [(.t 48)]), none⟩,
      ⟨(some 50), (.eqb false (.t 47) (.t 49)), none⟩,
      ⟨(some 51), (.mv (.t 50)), none⟩,
      ⟨(some 52), (.mv (.t 4)), (some (51, true))⟩,
      ⟨(some 53), (.bin .eql (.t 52) (.k (I 0))), (some (51, true))⟩,
      ⟨(some 54), (.pick (.t 51) (.t 53) (.k (B false))), none⟩,
      ⟨(some 55), (.mv (.t 54)), none⟩,
      ⟨(some 56), (.load true 2 (.t 5)), (some (55, true))⟩,
      ⟨(some 57), (.load true 2 (.t 7)), (some (55, true))⟩,
      ⟨(some 58), (.eqv false 2 (.t 56) (.t 57)), (some (55, true))⟩,
      ⟨(some 59), (.pick (.t 55) (.t 58) (.k (B false))), none⟩,
      ⟨(some 60), (.mv (.t 59)), none⟩,
      ⟨(some 61), (.mv (.t 6)), (some (60, true))⟩,
      ⟨(some 62), (.mv (.t 8)), (some (60, true))⟩,
      ⟨(some 63), (.bin .eql (.t 61) (.t 62)), (some (60, true))⟩,
      ⟨(some 64), (.pick (.t 60) (.t 63) (.k (B false))), none⟩,
      ⟨(some 65), (.mv (.t 64)), none⟩,
      ⟨(some 66), (.call (.k (.fn (.func 18) [] [])) []), (some (65, true))⟩,
      ⟨(some 67), (.pick (.t 65) (.t 66) (.k (B false))), none⟩,
      ⟨(some 2), (.mv (.t 67)), none⟩])
    .ret)))))) ks fr H ms := rfl
def r4 : List IRes := [(.tmp 2)]
theorem t4 : Try.f4.body.bind (trCode Try.prog Try.f4.ntmps) = some (strip c4) := by kernel_rfl
theorem q4 : trRes Try.prog Try.f4.results.toList = some r4 := by kernel_rfl
theorem fn4 : Try.prog.funcs[4]? = some Try.f4 := by kernel_rfl
theorem nn4 : (Try.f4.name == "runtime.NumGoroutine") = false := by kernel_rfl
theorem nt4 : Try.f4.ntmps = 68 := by kernel_rfl
def c19 : ICode :=
  (.seq (.ops [⟨(some 2), (.alloc [(I 0), (I 0)]), none⟩,
    ⟨(some 3), (.mv (.k (I 0))), none⟩])
  (.seq (.seq (.ops [⟨(some 6), (.mv (.t 0)), none⟩,
    ⟨(some 7), (.call (.k (.fn (.func 48) [] [])) [(.t 6)]), none⟩,
    ⟨(some 8), (.un .not (.t 7)), none⟩])
  (.cond (.t 8)
    (.seq (.ops [⟨(some 9), (.build [(I 0), (I 0)] []), none⟩,
      ⟨none, (.store 2 (.t 2) (.t 9)), none⟩,
      ⟨(some 3), (.mv (.k (I 2))), none⟩])
    .ret)
    .skip))
  (.seq (.ops [⟨(some 11), (.mv (.t 0)), none⟩,
    ⟨(some 12), (.call (.k (.fn (.func 51) [] [])) [(.t 11)]), none⟩,
    ⟨(some 13), (.mv (.t 0)), none⟩,
    ⟨(some 14), (.len (.t 13)), none⟩,
    ⟨(some 15), (.call (.k (.fn (.func 50) [] [])) [(.t 14)]), none⟩,
    ⟨(some 16), (.call (.k (.fn (.func 52) [] [])) [(.t 12), (.t 15)]), none⟩,
    ⟨(some 10), (.mv (.t 16)), none⟩,
    ⟨(some 17), (.ext (.t 10) 0), none⟩,
    ⟨(some 18), (.ext (.t 10) 1), none⟩,
    ⟨(some 4), (.alloc [(I 0), (I 0)]), none⟩,
    ⟨none, (.store 2 (.t 4) (.t 17)), none⟩,
    ⟨(some 5), (.mv (.t 18)), none⟩])
  (.seq (.seq (.ops [⟨(some 19), (.mv (.t 5)), none⟩,
    ⟨(some 20), (.un .not (.t 19)), none⟩])
  (.cond (.t 20)
    (.seq (.ops [⟨(some 21), (.build [(I 0), (I 0)] []), none⟩,
      ⟨none, (.store 2 (.t 2) (.t 21)), none⟩,
      ⟨(some 3), (.mv (.k (I 4))), none⟩])
    .ret)
    .skip))
  (.seq (.ops [⟨(some 22), (.load true 2 (.t 4)), none⟩,
    ⟨none, (.store 2 (.t 2) (.t 22)), none⟩,
    ⟨(some 3), (.mv (.k (I 0))), none⟩])
  .ret)))))
theorem w19 {x : Cx} {Q : QT} {ks : List Kont} {fr : Fr} {H : AHeap} {ms : List Nat} : W x Q c19 ks fr H ms = W x Q (.seq (.ops [⟨(some 2), (.alloc [(I 0), (I 0)]), none⟩,
      ⟨(some 3), (.mv (.k (I 0))), none⟩])
    (.seq (.seq (.ops [⟨(some 6), (.mv (.t 0)), none⟩,
      ⟨(some 7), (.call (.k (.fn (.func 48) [] [])) [(.t 6)]), none⟩,
      ⟨(some 8), (.un .not (.t 7)), none⟩])
    (.cond (.t 8)
      (.seq (.ops [⟨(some 9), (.build [(I 0), (I 0)] []), none⟩,
        ⟨none, (.store 2 (.t 2) (.t 9)), none⟩,
        ⟨(some 3), (.mv (.k (I 2))), none⟩])
      .ret)
      .skip))
    (.seq (.ops [⟨(some 11), (.mv (.t 0)), none⟩,
      ⟨(some 12), (.call (.k (.fn (.func 51) [] [])) [(.t 11)]), none⟩,
      ⟨(some 13), (.mv (.t 0)), none⟩,
      ⟨(some 14), (.len (.t 13)), none⟩,
      ⟨(some 15), (.call (.k (.fn (.func 50) [] [])) [(.t 14)]), none⟩,
      ⟨(some 16), (.call (.k (.fn (.func 52) [] [])) [(.t 12), (.t 15)]), none⟩,
      ⟨(some 10), (.mv (.t 16)), none⟩,
      ⟨(some 17), (.ext (.t 10) 0), none⟩,
      ⟨(some 18), (.ext (.t 10) 1), none⟩,
      ⟨(some 4), (.alloc [(I 0), (I 0)]), none⟩,
      ⟨none, (.store 2 (.t 4) (.t 17)), none⟩,
      ⟨(some 5), (.mv (.t 18)), none⟩])
    (.seq (.seq (.ops [⟨(some 19), (.mv (.t 5)), none⟩,
      ⟨(some 20), (.un .not (.t 19)), none⟩])
    (.cond (.t 20)
      (.seq (.ops [⟨(some 21), (.build [(I 0), (I 0)] []), none⟩,
        ⟨none, (.store 2 (.t 2) (.t 21)), none⟩,
        ⟨(some 3), (.mv (.k (I 4))), none⟩])
      .ret)
      .skip))
    (.seq (.ops [⟨(some 22), (.load true 2 (.t 4)), none⟩,
      ⟨none, (.store 2 (.t 2) (.t 22)), none⟩,
      ⟨(some 3), (.mv (.k (I 0))), none⟩])
    .ret))))) ks fr H ms := rfl
def r19 : List IRes := [(.cell true 2 2), (.tmp 3)]
theorem t19 : Try.f19.body.bind (trCode Try.prog Try.f19.ntmps) = some (strip c19) := by kernel_rfl
theorem q19 : trRes Try.prog Try.f19.results.toList = some r19 := by kernel_rfl
theorem fn19 : Try.prog.funcs[19]? = some Try.f19 := by kernel_rfl
theorem nn19 : (Try.f19.name == "runtime.NumGoroutine") = false := by kernel_rfl
theorem nt19 : Try.f19.ntmps = 23 := by kernel_rfl
def c20 : ICode :=
  (.seq (.ops [⟨(some 2), (.alloc [(I 0), (I 0)]), none⟩,
    ⟨(some 3), (.mv (.k (I 0))), none⟩])
  (.seq (.ops [⟨(some 7), (.mv (.t 0)), none⟩,
    ⟨(some 8), (.mv (.t 0)), none⟩,
    ⟨(some 9), (.len (.t 8)), none⟩,
    ⟨(some 10), (.call (.k (.fn (.func 54) [] [])) [(.t 9)]), none⟩,
    ⟨(some 11), (.call (.k (.fn (.func 53) [] [])) [(.t 7), (.t 10)]), none⟩,
    ⟨(some 6), (.mv (.t 11)), none⟩,
    ⟨(some 12), (.ext (.t 6) 0), none⟩,
    ⟨(some 13), (.ext (.t 6) 1), none⟩,
    ⟨(some 4), (.alloc [(I 0), (I 0)]), none⟩,
    ⟨none, (.store 2 (.t 4) (.t 12)), none⟩,
    ⟨(some 5), (.mv (.t 13)), none⟩])
  (.seq (.seq (.ops [⟨(some 14), (.mv (.t 5)), none⟩,
    ⟨(some 15), (.un .not (.t 14)), none⟩])
  (.cond (.t 15)
    (.seq (.ops [⟨(some 16), (.build [(I 0), (I 0)] []), none⟩,
      ⟨none, (.store 2 (.t 2) (.t 16)), none⟩,
      ⟨(some 3), (.mv (.k (I 4))), none⟩])
    .ret)
    .skip))
  (.seq (.ops [⟨(some 17), (.load true 2 (.t 4)), none⟩,
    ⟨none, (.store 2 (.t 2) (.t 17)), none⟩,
    ⟨(some 3), (.mv (.k (I 0))), none⟩])
  .ret))))
theorem w20 {x : Cx} {Q : QT} {ks : List Kont} {fr : Fr} {H : AHeap} {ms : List Nat} : W x Q c20 ks fr H ms = W x Q (.seq (.ops [⟨(some 2), (.alloc [(I 0), (I 0)]), none⟩,
      ⟨(some 3), (.mv (.k (I 0))), none⟩])
    (.seq (.ops [⟨(some 7), (.mv (.t 0)), none⟩,
      ⟨(some 8), (.mv (.t 0)), none⟩,
      ⟨(some 9), (.len (.t 8)), none⟩,
      ⟨(some 10), (.call (.k (.fn (.func 54) [] [])) [(.t 9)]), none⟩,
      ⟨(some 11), (.call (.k (.fn (.func 53) [] [])) [(.t 7), (.t 10)]), none⟩,
      ⟨(some 6), (.mv (.t 11)), none⟩,
      ⟨(some 12), (.ext (.t 6) 0), none⟩,
      ⟨(some 13), (.ext (.t 6) 1), none⟩,
      ⟨(some 4), (.alloc [(I 0), (I 0)]), none⟩,
      ⟨none, (.store 2 (.t 4) (.t 12)), none⟩,
      ⟨(some 5), (.mv (.t 13)), none⟩])
    (.seq (.seq (.ops [⟨(some 14), (.mv (.t 5)), none⟩,
      ⟨(some 15), (.un .not (.t 14)), none⟩])
    (.cond (.t 15)
      (.seq (.ops [⟨(some 16), (.build [(I 0), (I 0)] []), none⟩,
        ⟨none, (.store 2 (.t 2) (.t 16)), none⟩,
        ⟨(some 3), (.mv (.k (I 4))), none⟩])
      .ret)
      .skip))
    (.seq (.ops [⟨(some 17), (.load true 2 (.t 4)), none⟩,
      ⟨none, (.store 2 (.t 2) (.t 17)), none⟩,
      ⟨(some 3), (.mv (.k (I 0))), none⟩])
    .ret)))) ks fr H ms := rfl
def r20 : List IRes := [(.cell true 2 2), (.tmp 3)]
theorem t20 : Try.f20.body.bind (trCode Try.prog Try.f20.ntmps) = some (strip c20) := by kernel_rfl
theorem q20 : trRes Try.prog Try.f20.results.toList = some r20 := by kernel_rfl
theorem fn20 : Try.prog.funcs[20]? = some Try.f20 := by kernel_rfl
theorem nn20 : (Try.f20.name == "runtime.NumGoroutine") = false := by kernel_rfl
theorem nt20 : Try.f20.ntmps = 18 := by kernel_rfl
def c21 : ICode :=
  (.seq (.ops [⟨(some 2), (.mv (.k (B false))), none⟩])
  (.seq (.ops [⟨(some 6), (.mv (.t 0)), none⟩,
    ⟨(some 7), (.mv (.t 0)), none⟩,
    ⟨(some 8), (.len (.t 7)), none⟩,
    ⟨(some 9), (.call (.k (.fn (.func 54) [] [])) [(.t 8)]), none⟩,
    ⟨(some 10), (.call (.k (.fn (.func 53) [] [])) [(.t 6), (.t 9)]), none⟩,
    ⟨(some 5), (.mv (.t 10)), none⟩,
    ⟨(some 11), (.ext (.t 5) 0), none⟩,
    ⟨(some 12), (.ext (.t 5) 1), none⟩,
    ⟨(some 3), (.alloc [(I 0), (I 0)]), none⟩,
    ⟨none, (.store 2 (.t 3) (.t 11)), none⟩,
    ⟨(some 4), (.mv (.t 12)), none⟩])
  (.seq (.ops [⟨(some 13), (.mv (.t 4)), none⟩,
    ⟨(some 14), (.un .not (.t 13)), none⟩,
    ⟨(some 2), (.mv (.t 14)), none⟩])
  .ret)))
theorem w21 {x : Cx} {Q : QT} {ks : List Kont} {fr : Fr} {H : AHeap} {ms : List Nat} : W x Q c21 ks fr H ms = W x Q (.seq (.ops [⟨(some 2), (.mv (.k (B false))), none⟩])
    (.seq (.ops [⟨(some 6), (.mv (.t 0)), none⟩,
      ⟨(some 7), (.mv (.t 0)), none⟩,
      ⟨(some 8), (.len (.t 7)), none⟩,
      ⟨(some 9), (.call (.k (.fn (.func 54) [] [])) [(.t 8)]), none⟩,
      ⟨(some 10), (.call (.k (.fn (.func 53) [] [])) [(.t 6), (.t 9)]), none⟩,
      ⟨(some 5), (.mv (.t 10)), none⟩,
      ⟨(some 11), (.ext (.t 5) 0), none⟩,
      ⟨(some 12), (.ext (.t 5) 1), none⟩,
      ⟨(some 3), (.alloc [(I 0), (I 0)]), none⟩,
      ⟨none, (.store 2 (.t 3) (.t 11)), none⟩,
      ⟨(some 4), (.mv (.t 12)), none⟩])
    (.seq (.ops [⟨(some 13), (.mv (.t 4)), none⟩,
      ⟨(some 14), (.un .not (.t 13)), none⟩,
      ⟨(some 2), (.mv (.t 14)), none⟩])
    .ret))) ks fr H ms := rfl
def r21 : List IRes := [(.tmp 2)]
theorem t21 : Try.f21.body.bind (trCode Try.prog Try.f21.ntmps) = some (strip c21) := by kernel_rfl
theorem q21 : trRes Try.prog Try.f21.results.toList = some r21 := by kernel_rfl
theorem fn21 : Try.prog.funcs[21]? = some Try.f21 := by kernel_rfl
theorem nn21 : (Try.f21.name == "runtime.NumGoroutine") = false := by kernel_rfl
theorem nt21 : Try.f21.ntmps = 15 := by kernel_rfl
def c53T3 : ICode :=
  (.keep [4] (.seq (.ops [⟨(some 38), (.build [(I 0), (I 0)] []), none⟩,
    ⟨none, (.store 2 (.t 4) (.t 38)), none⟩,
    ⟨(some 5), (.mv (.k (B false))), none⟩])
  .ret))
theorem w53T3 {x : Cx} {Q : QT} {ks : List Kont} {fr : Fr} {H : AHeap} {ms : List Nat} : W x Q c53T3 ks fr H ms = W x Q (.keep [4] (.seq (.ops [⟨(some 38), (.build [(I 0), (I 0)] []), none⟩,
      ⟨none, (.store 2 (.t 4) (.t 38)), none⟩,
      ⟨(some 5), (.mv (.k (B false))), none⟩])
    .ret)) ks fr H ms := rfl
def c53T2 : ICode :=
  (.keep [1, 4, 6, 12, 13, 14] (.ops [⟨(some 37), (.bin .add (.t 14) (.k (I 1))), none⟩,
    ⟨(some 14), (.mv (.t 37)), none⟩]))
theorem w53T2 {x : Cx} {Q : QT} {ks : List Kont} {fr : Fr} {H : AHeap} {ms : List Nat} : W x Q c53T2 ks fr H ms = W x Q (.keep [1, 4, 6, 12, 13, 14] (.ops [⟨(some 37), (.bin .add (.t 14) (.k (I 1))), none⟩,
      ⟨(some 14), (.mv (.t 37)), none⟩])) ks fr H ms := rfl
/- live: [1, 4, 6, 7, 8, 9, 12, 13, 14] -/
def c53L1 : ICode :=
  (.seq (.seq (.ops [⟨(some 21), (.mv (.t 9)), none⟩,
    ⟨(some 22), (.mv (.t 1)), none⟩,
    ⟨(some 23), (.len (.t 22)), none⟩,
    ⟨(some 24), (.bin .lss (.t 21) (.t 23)), none⟩])
  (.cond (.t 24)
    .skip
    (.exit 2)))
  (.seq (.block 3 (.seq (.draw 0 [] (.early 1 ⟨(some 27), (.mv (.t 6)), none⟩
    (.early 1 ⟨(some 28), (.load true 3 (.t 8)), none⟩
    (.early 1 ⟨(some 29), (.mv (.t 1)), none⟩
    (.early 1 ⟨(some 30), (.mv (.t 9)), none⟩
    (.early 1 ⟨(some 31), (.ixS 3 (.t 29) (.t 30)), none⟩
    (.early 1 ⟨(some 32), (.load true 3 (.t 31)), none⟩
    (.step 0 0 ⟨(some 33), (.call (.k (.fn (.func 73) [] [])) [(.t 27), (.t 28), (.t 32)]), none⟩
    .done))))))))
  (.keep [1, 4, 6, 7, 8, 9, 12, 13, 14, 33] (.cond (.t 33)
    (.seq (.ops [⟨(some 34), (.mv (.t 7)), none⟩,
      ⟨(some 35), (.mv (.t 9)), none⟩,
      ⟨(some 36), (.build [(I 0), (I 0)] [(0, 1, (.t 34)), (1, 1, (.t 35))]), none⟩,
      ⟨none, (.store 2 (.t 4) (.t 36)), none⟩,
      ⟨(some 5), (.mv (.k (B true))), none⟩])
    .ret)
    .skip))))
  (.ops [⟨(some 25), (.mv (.t 9)), none⟩,
    ⟨(some 26), (.bin .add (.t 25) (.k (I 1))), none⟩,
    ⟨(some 9), (.mv (.t 26)), none⟩])))
theorem w53L1 {x : Cx} {Q : QT} {ks : List Kont} {fr : Fr} {H : AHeap} {ms : List Nat} : W x Q c53L1 ks fr H ms = W x Q (.seq (.seq (.ops [⟨(some 21), (.mv (.t 9)), none⟩,
      ⟨(some 22), (.mv (.t 1)), none⟩,
      ⟨(some 23), (.len (.t 22)), none⟩,
      ⟨(some 24), (.bin .lss (.t 21) (.t 23)), none⟩])
    (.cond (.t 24)
      .skip
      (.exit 2)))
    (.seq (.block 3 (.seq (.draw 0 [] (.early 1 ⟨(some 27), (.mv (.t 6)), none⟩
      (.early 1 ⟨(some 28), (.load true 3 (.t 8)), none⟩
      (.early 1 ⟨(some 29), (.mv (.t 1)), none⟩
      (.early 1 ⟨(some 30), (.mv (.t 9)), none⟩
      (.early 1 ⟨(some 31), (.ixS 3 (.t 29) (.t 30)), none⟩
      (.early 1 ⟨(some 32), (.load true 3 (.t 31)), none⟩
      (.step 0 0 ⟨(some 33), (.call (.k (.fn (.func 73) [] [])) [(.t 27), (.t 28), (.t 32)]), none⟩
      .done))))))))
    (.keep [1, 4, 6, 7, 8, 9, 12, 13, 14, 33] (.cond (.t 33)
      (.seq (.ops [⟨(some 34), (.mv (.t 7)), none⟩,
        ⟨(some 35), (.mv (.t 9)), none⟩,
        ⟨(some 36), (.build [(I 0), (I 0)] [(0, 1, (.t 34)), (1, 1, (.t 35))]), none⟩,
        ⟨none, (.store 2 (.t 4) (.t 36)), none⟩,
        ⟨(some 5), (.mv (.k (B true))), none⟩])
      .ret)
      .skip))))
    (.ops [⟨(some 25), (.mv (.t 9)), none⟩,
      ⟨(some 26), (.bin .add (.t 25) (.k (I 1))), none⟩,
      ⟨(some 9), (.mv (.t 26)), none⟩]))) ks fr H ms := rfl
/- live: [1, 4, 6, 12, 13, 14] -/
def c53L0 : ICode :=
  (.seq (.ops [⟨(some 15), (.bin .lss (.t 14) (.t 13)), none⟩])
  (.seq (.cond (.t 15)
    .skip
    (.exit 0))
  (.seq (.block 1 (.seq (.ops [⟨(some 16), (.mv (.t 14)), none⟩,
    ⟨(some 17), (.ixS 3 (.t 12) (.t 14)), none⟩,
    ⟨(some 18), (.load true 3 (.t 17)), none⟩,
    ⟨(some 8), (.alloc [(I 0), (I 0), (I 0)]), none⟩,
    ⟨(some 7), (.mv (.t 16)), none⟩,
    ⟨none, (.store 3 (.t 8) (.t 18)), none⟩])
  (.seq (.ops [⟨(some 19), (.mv (.t 7)), none⟩,
    ⟨(some 20), (.bin .add (.t 19) (.k (I 1))), none⟩,
    ⟨(some 9), (.mv (.t 20)), none⟩])
  (.block 2 (.loop c53L1)))))
  c53T2)))
theorem w53L0 {x : Cx} {Q : QT} {ks : List Kont} {fr : Fr} {H : AHeap} {ms : List Nat} : W x Q c53L0 ks fr H ms = W x Q (.seq (.ops [⟨(some 15), (.bin .lss (.t 14) (.t 13)), none⟩])
    (.seq (.cond (.t 15)
      .skip
      (.exit 0))
    (.seq (.block 1 (.seq (.ops [⟨(some 16), (.mv (.t 14)), none⟩,
      ⟨(some 17), (.ixS 3 (.t 12) (.t 14)), none⟩,
      ⟨(some 18), (.load true 3 (.t 17)), none⟩,
      ⟨(some 8), (.alloc [(I 0), (I 0), (I 0)]), none⟩,
      ⟨(some 7), (.mv (.t 16)), none⟩,
      ⟨none, (.store 3 (.t 8) (.t 18)), none⟩])
    (.seq (.ops [⟨(some 19), (.mv (.t 7)), none⟩,
      ⟨(some 20), (.bin .add (.t 19) (.k (I 1))), none⟩,
      ⟨(some 9), (.mv (.t 20)), none⟩])
    (.block 2 (.loop c53L1)))))
    c53T2))) ks fr H ms := rfl
def c53 : ICode :=
  (.seq (.ops [⟨(some 4), (.alloc [(I 0), (I 0)]), none⟩,
    ⟨(some 5), (.mv (.k (B false))), none⟩])
  (.seq (.ops [⟨(some 10), (.mv (.t 0)), none⟩,
    ⟨(some 11), (.call (.k (.fn (.func 70) [] [])) [(.t 10)]), none⟩,
    ⟨(some 6), (.mv (.t 11)), none⟩])
  (.seq (.seq (.ops [⟨(some 12), (.mv (.t 1)), none⟩,
    ⟨(some 13), (.len (.t 12)), none⟩,
    ⟨(some 14), (.mv (.k (I 0))), none⟩])
  (.block 0 (.loop c53L0)))
  c53T3)))
theorem w53 {x : Cx} {Q : QT} {ks : List Kont} {fr : Fr} {H : AHeap} {ms : List Nat} : W x Q c53 ks fr H ms = W x Q (.seq (.ops [⟨(some 4), (.alloc [(I 0), (I 0)]), none⟩,
      ⟨(some 5), (.mv (.k (B false))), none⟩])
    (.seq (.ops [⟨(some 10), (.mv (.t 0)), none⟩,
      ⟨(some 11), (.call (.k (.fn (.func 70) [] [])) [(.t 10)]), none⟩,
      ⟨(some 6), (.mv (.t 11)), none⟩])
    (.seq (.seq (.ops [⟨(some 12), (.mv (.t 1)), none⟩,
      ⟨(some 13), (.len (.t 12)), none⟩,
      ⟨(some 14), (.mv (.k (I 0))), none⟩])
    (.block 0 (.loop c53L0)))
    c53T3))) ks fr H ms := rfl
def r53 : List IRes := [(.cell true 2 4), (.tmp 5)]
theorem t53 : Try.f53.body.bind (trCode Try.prog Try.f53.ntmps) = some (strip c53) := by kernel_rfl
theorem q53 : trRes Try.prog Try.f53.results.toList = some r53 := by kernel_rfl
theorem fn53 : Try.prog.funcs[53]? = some Try.f53 := by kernel_rfl
theorem nn53 : (Try.f53.name == "runtime.NumGoroutine") = false := by kernel_rfl
theorem nt53 : Try.f53.ntmps = 39 := by kernel_rfl
def c54T1 : ICode :=
  (.keep [3] (.seq (.ops [⟨(some 20), (.mv (.t 3)), none⟩,
    ⟨(some 2), (.mv (.t 20)), none⟩])
  .ret))
theorem w54T1 {x : Cx} {Q : QT} {ks : List Kont} {fr : Fr} {H : AHeap} {ms : List Nat} : W x Q c54T1 ks fr H ms = W x Q (.keep [3] (.seq (.ops [⟨(some 20), (.mv (.t 3)), none⟩,
      ⟨(some 2), (.mv (.t 20)), none⟩])
    .ret)) ks fr H ms := rfl
/- live: [3, 6, 7] -/
def c54L0 : ICode :=
  (.seq (.ops [⟨(some 8), (.bin .lss (.t 7) (.t 6)), none⟩])
  (.seq (.cond (.t 8)
    .skip
    (.exit 0))
  (.seq (.block 1 (.seq (.ops [⟨(some 9), (.mv (.t 7)), none⟩,
    ⟨(some 4), (.mv (.t 9)), none⟩])
  (.ops [⟨(some 10), (.mv (.t 3)), none⟩,
    ⟨(some 11), (.mv (.t 4)), none⟩,
    ⟨(some 12), (.mv (.t 4)), none⟩,
    ⟨(some 13), (.bin .add (.t 12) (.k (I 1))), none⟩,
    ⟨(some 14), (.mv (.t 4)), none⟩,
    ⟨(some 15), (.bin .rem (.t 14) (.k (I 2))), none⟩,
    ⟨(some 16), (.build [(I 0), (I 0), (I 0)] [(0, 1, (.t 11)), (1, 1, (.t 13)), (2, 1, (.t 15))]), none⟩,
    ⟨(some 17), (.bslice 3 1 [(I 0), (I 0), (I 0)] [(0, 3, (.t 16))]), none⟩,
    ⟨(some 18), (.append 3 24 (.t 10) (.t 17)), none⟩,
    ⟨(some 3), (.mv (.t 18)), none⟩])))
  (.ops [⟨(some 19), (.bin .add (.t 7) (.k (I 1))), none⟩,
    ⟨(some 7), (.mv (.t 19)), none⟩]))))
theorem w54L0 {x : Cx} {Q : QT} {ks : List Kont} {fr : Fr} {H : AHeap} {ms : List Nat} : W x Q c54L0 ks fr H ms = W x Q (.seq (.ops [⟨(some 8), (.bin .lss (.t 7) (.t 6)), none⟩])
    (.seq (.cond (.t 8)
      .skip
      (.exit 0))
    (.seq (.block 1 (.seq (.ops [⟨(some 9), (.mv (.t 7)), none⟩,
      ⟨(some 4), (.mv (.t 9)), none⟩])
    (.ops [⟨(some 10), (.mv (.t 3)), none⟩,
      ⟨(some 11), (.mv (.t 4)), none⟩,
      ⟨(some 12), (.mv (.t 4)), none⟩,
      ⟨(some 13), (.bin .add (.t 12) (.k (I 1))), none⟩,
      ⟨(some 14), (.mv (.t 4)), none⟩,
      ⟨(some 15), (.bin .rem (.t 14) (.k (I 2))), none⟩,
      ⟨(some 16), (.build [(I 0), (I 0), (I 0)] [(0, 1, (.t 11)), (1, 1, (.t 13)), (2, 1, (.t 15))]), none⟩,
      ⟨(some 17), (.bslice 3 1 [(I 0), (I 0), (I 0)] [(0, 3, (.t 16))]), none⟩,
      ⟨(some 18), (.append 3 24 (.t 10) (.t 17)), none⟩,
      ⟨(some 3), (.mv (.t 18)), none⟩])))
    (.ops [⟨(some 19), (.bin .add (.t 7) (.k (I 1))), none⟩,
      ⟨(some 7), (.mv (.t 19)), none⟩])))) ks fr H ms := rfl
def c54 : ICode :=
  (.seq (.ops [⟨(some 2), (.mv (.k nilSl)), none⟩])
  (.seq (.ops [⟨(some 3), (.mv (.k nilSl)), none⟩])
  (.seq (.seq (.ops [⟨(some 5), (.mv (.t 0)), none⟩,
    ⟨(some 6), (.bin .sub (.t 5) (.k (I 1))), none⟩,
    ⟨(some 7), (.mv (.k (I 0))), none⟩])
  (.block 0 (.loop c54L0)))
  c54T1)))
theorem w54 {x : Cx} {Q : QT} {ks : List Kont} {fr : Fr} {H : AHeap} {ms : List Nat} : W x Q c54 ks fr H ms = W x Q (.seq (.ops [⟨(some 2), (.mv (.k nilSl)), none⟩])
    (.seq (.ops [⟨(some 3), (.mv (.k nilSl)), none⟩])
    (.seq (.seq (.ops [⟨(some 5), (.mv (.t 0)), none⟩,
      ⟨(some 6), (.bin .sub (.t 5) (.k (I 1))), none⟩,
      ⟨(some 7), (.mv (.k (I 0))), none⟩])
    (.block 0 (.loop c54L0)))
    c54T1))) ks fr H ms := rfl
def r54 : List IRes := [(.tmp 2)]
theorem t54 : Try.f54.body.bind (trCode Try.prog Try.f54.ntmps) = some (strip c54) := by kernel_rfl
theorem q54 : trRes Try.prog Try.f54.results.toList = some r54 := by kernel_rfl
theorem fn54 : Try.prog.funcs[54]? = some Try.f54 := by kernel_rfl
theorem nn54 : (Try.f54.name == "runtime.NumGoroutine") = false := by kernel_rfl
theorem nt54 : Try.f54.ntmps = 21 := by kernel_rfl
def c70T1 : ICode :=
  (.keep [3] (.seq (.ops [⟨(some 21), (.mv (.t 3)), none⟩,
    ⟨(some 2), (.mv (.t 21)), none⟩])
  .ret))
theorem w70T1 {x : Cx} {Q : QT} {ks : List Kont} {fr : Fr} {H : AHeap} {ms : List Nat} : W x Q c70T1 ks fr H ms = W x Q (.keep [3] (.seq (.ops [⟨(some 21), (.mv (.t 3)), none⟩,
      ⟨(some 2), (.mv (.t 21)), none⟩])
    .ret)) ks fr H ms := rfl
/- live: [3, 9, 10, 11] -/
def c70L0 : ICode :=
  (.seq (.ops [⟨(some 12), (.bin .lss (.t 11) (.t 10)), none⟩])
  (.seq (.cond (.t 12)
    .skip
    (.exit 0))
  (.seq (.block 1 (.seq (.ops [⟨(some 13), (.mv (.t 11)), none⟩,
    ⟨(some 14), (.ixS 1 (.t 9) (.t 11)), none⟩,
    ⟨(some 15), (.load false 1 (.t 14)), none⟩,
    ⟨(some 4), (.mv (.t 13)), none⟩,
    ⟨(some 5), (.mv (.t 15)), none⟩])
  (.ops [⟨(some 16), (.mv (.t 3)), none⟩,
    ⟨(some 17), (.mv (.t 5)), none⟩,
    ⟨(some 18), (.mv (.t 4)), none⟩,
    ⟨(some 19), (.ixS 1 (.t 16) (.t 17)), none⟩,
    ⟨none, (.store 1 (.t 19) (.t 18)), none⟩])))
  (.ops [⟨(some 20), (.bin .add (.t 11) (.k (I 1))), none⟩,
    ⟨(some 11), (.mv (.t 20)), none⟩]))))
theorem w70L0 {x : Cx} {Q : QT} {ks : List Kont} {fr : Fr} {H : AHeap} {ms : List Nat} : W x Q c70L0 ks fr H ms = W x Q (.seq (.ops [⟨(some 12), (.bin .lss (.t 11) (.t 10)), none⟩])
    (.seq (.cond (.t 12)
      .skip
      (.exit 0))
    (.seq (.block 1 (.seq (.ops [⟨(some 13), (.mv (.t 11)), none⟩,
      ⟨(some 14), (.ixS 1 (.t 9) (.t 11)), none⟩,
      ⟨(some 15), (.load false 1 (.t 14)), none⟩,
      ⟨(some 4), (.mv (.t 13)), none⟩,
      ⟨(some 5), (.mv (.t 15)), none⟩])
    (.ops [⟨(some 16), (.mv (.t 3)), none⟩,
      ⟨(some 17), (.mv (.t 5)), none⟩,
      ⟨(some 18), (.mv (.t 4)), none⟩,
      ⟨(some 19), (.ixS 1 (.t 16) (.t 17)), none⟩,
      ⟨none, (.store 1 (.t 19) (.t 18)), none⟩])))
    (.ops [⟨(some 20), (.bin .add (.t 11) (.k (I 1))), none⟩,
      ⟨(some 11), (.mv (.t 20)), none⟩])))) ks fr H ms := rfl
def c70 : ICode :=
  (.seq (.ops [⟨(some 2), (.mv (.k nilSl)), none⟩])
  (.seq (.ops [⟨(some 6), (.mv (.t 0)), none⟩,
    ⟨(some 7), (.len (.t 6)), none⟩,
    ⟨(some 8), (.mksl 1 8 [(I 0)] (.t 7) (.t 7)), none⟩,
    ⟨(some 3), (.mv (.t 8)), none⟩])
  (.seq (.seq (.ops [⟨(some 9), (.mv (.t 0)), none⟩,
    ⟨(some 10), (.len (.t 9)), none⟩,
    ⟨(some 11), (.mv (.k (I 0))), none⟩])
  (.block 0 (.loop c70L0)))
  c70T1)))
theorem w70 {x : Cx} {Q : QT} {ks : List Kont} {fr : Fr} {H : AHeap} {ms : List Nat} : W x Q c70 ks fr H ms = W x Q (.seq (.ops [⟨(some 2), (.mv (.k nilSl)), none⟩])
    (.seq (.ops [⟨(some 6), (.mv (.t 0)), none⟩,
      ⟨(some 7), (.len (.t 6)), none⟩,
      ⟨(some 8), (.mksl 1 8 [(I 0)] (.t 7) (.t 7)), none⟩,
      ⟨(some 3), (.mv (.t 8)), none⟩])
    (.seq (.seq (.ops [⟨(some 9), (.mv (.t 0)), none⟩,
      ⟨(some 10), (.len (.t 9)), none⟩,
      ⟨(some 11), (.mv (.k (I 0))), none⟩])
    (.block 0 (.loop c70L0)))
    c70T1))) ks fr H ms := rfl
def r70 : List IRes := [(.tmp 2)]
theorem t70 : Try.f70.body.bind (trCode Try.prog Try.f70.ntmps) = some (strip c70) := by kernel_rfl
theorem q70 : trRes Try.prog Try.f70.results.toList = some r70 := by kernel_rfl
theorem fn70 : Try.prog.funcs[70]? = some Try.f70 := by kernel_rfl
theorem nn70 : (Try.f70.name == "runtime.NumGoroutine") = false := by kernel_rfl
theorem nt70 : Try.f70.ntmps = 22 := by kernel_rfl
def c73T1 : ICode :=
  (.keep [9] (.seq (.ops [⟨(some 64), (.mv (.t 9)), none⟩,
    ⟨(some 65), (.bin .eql (.t 64) (.k (I 1))), none⟩,
    ⟨(some 6), (.mv (.t 65)), none⟩])
  .ret))
theorem w73T1 {x : Cx} {Q : QT} {ks : List Kont} {fr : Fr} {H : AHeap} {ms : List Nat} : W x Q c73T1 ks fr H ms = W x Q (.keep [9] (.seq (.ops [⟨(some 64), (.mv (.t 9)), none⟩,
      ⟨(some 65), (.bin .eql (.t 64) (.k (I 1))), none⟩,
      ⟨(some 6), (.mv (.t 65)), none⟩])
    .ret)) ks fr H ms := rfl
/- live: [7, 8, 9, 49, 50] -/
def c73L0 : ICode :=
  (.seq (.ops [⟨(some 51), (.bin .lss (.t 50) (.k (I 2))), none⟩])
  (.seq (.cond (.t 51)
    .skip
    (.exit 0))
  (.seq (.block 1 (.seq (.ops [⟨(some 52), (.ixV false 2 1 (.t 49) (.t 50)), none⟩,
    ⟨(some 11), (.mv (.t 52)), none⟩])
  (.seq (.ops [⟨(some 53), (.mv (.t 11)), none⟩,
    ⟨(some 54), (.mv (.t 7)), none⟩,
    ⟨(some 55), (.bin .gtr (.t 53) (.t 54)), none⟩,
    ⟨(some 56), (.mv (.t 55)), none⟩,
    ⟨(some 57), (.mv (.t 11)), (some (56, true))⟩,
    ⟨(some 58), (.mv (.t 8)), (some (56, true))⟩,
    ⟨(some 59), (.bin .lss (.t 57) (.t 58)), (some (56, true))⟩,
    ⟨(some 60), (.pick (.t 56) (.t 59) (.k (B false))), none⟩])
  (.cond (.t 60)
    (.ops [⟨(some 61), (.mv (.t 9)), none⟩,
      ⟨(some 62), (.bin .add (.t 61) (.k (I 1))), none⟩,
      ⟨(some 9), (.mv (.t 62)), none⟩])
    .skip))))
  (.ops [⟨(some 63), (.bin .add (.t 50) (.k (I 1))), none⟩,
    ⟨(some 50), (.mv (.t 63)), none⟩]))))
theorem w73L0 {x : Cx} {Q : QT} {ks : List Kont} {fr : Fr} {H : AHeap} {ms : List Nat} : W x Q c73L0 ks fr H ms = W x Q (.seq (.ops [⟨(some 51), (.bin .lss (.t 50) (.k (I 2))), none⟩])
    (.seq (.cond (.t 51)
      .skip
      (.exit 0))
    (.seq (.block 1 (.seq (.ops [⟨(some 52), (.ixV false 2 1 (.t 49) (.t 50)), none⟩,
      ⟨(some 11), (.mv (.t 52)), none⟩])
    (.seq (.ops [⟨(some 53), (.mv (.t 11)), none⟩,
      ⟨(some 54), (.mv (.t 7)), none⟩,
      ⟨(some 55), (.bin .gtr (.t 53) (.t 54)), none⟩,
      ⟨(some 56), (.mv (.t 55)), none⟩,
      ⟨(some 57), (.mv (.t 11)), (some (56, true))⟩,
      ⟨(some 58), (.mv (.t 8)), (some (56, true))⟩,
      ⟨(some 59), (.bin .lss (.t 57) (.t 58)), (some (56, true))⟩,
      ⟨(some 60), (.pick (.t 56) (.t 59) (.k (B false))), none⟩])
    (.cond (.t 60)
      (.ops [⟨(some 61), (.mv (.t 9)), none⟩,
        ⟨(some 62), (.bin .add (.t 61) (.k (I 1))), none⟩,
        ⟨(some 9), (.mv (.t 62)), none⟩])
      .skip))))
    (.ops [⟨(some 63), (.bin .add (.t 50) (.k (I 1))), none⟩,
      ⟨(some 50), (.mv (.t 63)), none⟩])))) ks fr H ms := rfl
def c73 : ICode :=
  (.seq (.ops [⟨(some 4), (.box (.t 1)), none⟩,
    ⟨(some 5), (.box (.t 2)), none⟩,
    ⟨(some 6), (.mv (.k (B false))), none⟩])
  (.seq (.seq (.ops [⟨(some 12), (.fldA 2 (.t 4)), none⟩,
    ⟨(some 13), (.load false 1 (.t 12)), none⟩,
    ⟨(some 14), (.fldA 2 (.t 5)), none⟩,
    ⟨(some 15), (.load false 1 (.t 14)), none⟩,
    ⟨(some 16), (.bin .neq (.t 13) (.t 15)), none⟩])
  (.cond (.t 16)
    (.seq (.ops [⟨(some 6), (.mv (.k (B false))), none⟩])
    .ret)
    .skip))
  (.seq (.draw 0 [] (.early 1 ⟨(some 17), (.mv (.t 0)), none⟩
    (.early 1 ⟨(some 18), (.fldA 0 (.t 4)), none⟩
    (.early 1 ⟨(some 19), (.load false 1 (.t 18)), none⟩
    (.early 1 ⟨(some 20), (.ixS 1 (.t 17) (.t 19)), none⟩
    (.early 1 ⟨(some 21), (.load false 1 (.t 20)), none⟩
    (.early 1 ⟨(some 22), (.mv (.t 0)), none⟩
    (.early 1 ⟨(some 23), (.fldA 1 (.t 4)), none⟩
    (.early 1 ⟨(some 24), (.load false 1 (.t 23)), none⟩
    (.early 1 ⟨(some 25), (.ixS 1 (.t 22) (.t 24)), none⟩
    (.early 1 ⟨(some 26), (.load false 1 (.t 25)), none⟩
    (.early 1 ⟨(some 27), (.mn (.t 21) (.t 26)), none⟩
    (.early 1 ⟨(some 28), (.mv (.t 0)), none⟩
    (.early 1 ⟨(some 29), (.fldA 0 (.t 4)), none⟩
    (.early 1 ⟨(some 30), (.load false 1 (.t 29)), none⟩
    (.early 1 ⟨(some 31), (.ixS 1 (.t 28) (.t 30)), none⟩
    (.early 1 ⟨(some 32), (.load false 1 (.t 31)), none⟩
    (.early 1 ⟨(some 33), (.mv (.t 0)), none⟩
    (.early 1 ⟨(some 34), (.fldA 1 (.t 4)), none⟩
    (.early 1 ⟨(some 35), (.load false 1 (.t 34)), none⟩
    (.early 1 ⟨(some 36), (.ixS 1 (.t 33) (.t 35)), none⟩
    (.early 1 ⟨(some 37), (.load false 1 (.t 36)), none⟩
    (.early 1 ⟨(some 38), (.mx (.t 32) (.t 37)), none⟩
    (.early 1 ⟨(some 7), (.mv (.t 27)), none⟩
    (.early 0 ⟨(some 8), (.mv (.t 38)), none⟩
    .done)))))))))))))))))))))))))
  (.keep [0, 5, 7, 8] (.seq (.ops [⟨(some 9), (.mv (.k (I 0))), none⟩])
  (.seq (.seq (.draw 0 [] (.early 1 ⟨(some 39), (.mv (.t 0)), none⟩
    (.early 1 ⟨(some 40), (.fldA 0 (.t 5)), none⟩
    (.early 1 ⟨(some 41), (.load false 1 (.t 40)), none⟩
    (.early 1 ⟨(some 42), (.ixS 1 (.t 39) (.t 41)), none⟩
    (.early 1 ⟨(some 43), (.load false 1 (.t 42)), none⟩
    (.early 1 ⟨(some 44), (.mv (.t 0)), none⟩
    (.early 1 ⟨(some 45), (.fldA 1 (.t 5)), none⟩
    (.early 1 ⟨(some 46), (.load false 1 (.t 45)), none⟩
    (.early 1 ⟨(some 47), (.ixS 1 (.t 44) (.t 46)), none⟩
    (.early 1 ⟨(some 48), (.load false 1 (.t 47)), none⟩
    (.early 1 ⟨(some 49), (.build [(I 0), (I 0)] [(0, 1, (.t 43)), (1, 1, (.t 48))]), none⟩
    (.early 1 ⟨(some 50), (.mv (.k (I 0))), none⟩
    .done)))))))))))))
  (.keep [7, 8, 9, 49, 50] (.block 0 (.loop c73L0))))
  c73T1))))))
theorem w73 {x : Cx} {Q : QT} {ks : List Kont} {fr : Fr} {H : AHeap} {ms : List Nat} : W x Q c73 ks fr H ms = W x Q (.seq (.ops [⟨(some 4), (.box (.t 1)), none⟩,
      ⟨(some 5), (.box (.t 2)), none⟩,
      ⟨(some 6), (.mv (.k (B false))), none⟩])
    (.seq (.seq (.ops [⟨(some 12), (.fldA 2 (.t 4)), none⟩,
      ⟨(some 13), (.load false 1 (.t 12)), none⟩,
      ⟨(some 14), (.fldA 2 (.t 5)), none⟩,
      ⟨(some 15), (.load false 1 (.t 14)), none⟩,
      ⟨(some 16), (.bin .neq (.t 13) (.t 15)), none⟩])
    (.cond (.t 16)
      (.seq (.ops [⟨(some 6), (.mv (.k (B false))), none⟩])
      .ret)
      .skip))
    (.seq (.draw 0 [] (.early 1 ⟨(some 17), (.mv (.t 0)), none⟩
      (.early 1 ⟨(some 18), (.fldA 0 (.t 4)), none⟩
      (.early 1 ⟨(some 19), (.load false 1 (.t 18)), none⟩
      (.early 1 ⟨(some 20), (.ixS 1 (.t 17) (.t 19)), none⟩
      (.early 1 ⟨(some 21), (.load false 1 (.t 20)), none⟩
      (.early 1 ⟨(some 22), (.mv (.t 0)), none⟩
      (.early 1 ⟨(some 23), (.fldA 1 (.t 4)), none⟩
      (.early 1 ⟨(some 24), (.load false 1 (.t 23)), none⟩
      (.early 1 ⟨(some 25), (.ixS 1 (.t 22) (.t 24)), none⟩
      (.early 1 ⟨(some 26), (.load false 1 (.t 25)), none⟩
      (.early 1 ⟨(some 27), (.mn (.t 21) (.t 26)), none⟩
      (.early 1 ⟨(some 28), (.mv (.t 0)), none⟩
      (.early 1 ⟨(some 29), (.fldA 0 (.t 4)), none⟩
      (.early 1 ⟨(some 30), (.load false 1 (.t 29)), none⟩
      (.early 1 ⟨(some 31), (.ixS 1 (.t 28) (.t 30)), none⟩
      (.early 1 ⟨(some 32), (.load false 1 (.t 31)), none⟩
      (.early 1 ⟨(some 33), (.mv (.t 0)), none⟩
      (.early 1 ⟨(some 34), (.fldA 1 (.t 4)), none⟩
      (.early 1 ⟨(some 35), (.load false 1 (.t 34)), none⟩
      (.early 1 ⟨(some 36), (.ixS 1 (.t 33) (.t 35)), none⟩
      (.early 1 ⟨(some 37), (.load false 1 (.t 36)), none⟩
      (.early 1 ⟨(some 38), (.mx (.t 32) (.t 37)), none⟩
      (.early 1 ⟨(some 7), (.mv (.t 27)), none⟩
      (.early 0 ⟨(some 8), (.mv (.t 38)), none⟩
      .done)))))))))))))))))))))))))
    (.keep [0, 5, 7, 8] (.seq (.ops [⟨(some 9), (.mv (.k (I 0))), none⟩])
    (.seq (.seq (.draw 0 [] (.early 1 ⟨(some 39), (.mv (.t 0)), none⟩
      (.early 1 ⟨(some 40), (.fldA 0 (.t 5)), none⟩
      (.early 1 ⟨(some 41), (.load false 1 (.t 40)), none⟩
      (.early 1 ⟨(some 42), (.ixS 1 (.t 39) (.t 41)), none⟩
      (.early 1 ⟨(some 43), (.load false 1 (.t 42)), none⟩
      (.early 1 ⟨(some 44), (.mv (.t 0)), none⟩
      (.early 1 ⟨(some 45), (.fldA 1 (.t 5)), none⟩
      (.early 1 ⟨(some 46), (.load false 1 (.t 45)), none⟩
      (.early 1 ⟨(some 47), (.ixS 1 (.t 44) (.t 46)), none⟩
      (.early 1 ⟨(some 48), (.load false 1 (.t 47)), none⟩
      (.early 1 ⟨(some 49), (.build [(I 0), (I 0)] [(0, 1, (.t 43)), (1, 1, (.t 48))]), none⟩
      (.early 1 ⟨(some 50), (.mv (.k (I 0))), none⟩
      .done)))))))))))))
    (.keep [7, 8, 9, 49, 50] (.block 0 (.loop c73L0))))
    c73T1)))))) ks fr H ms := rfl
def r73 : List IRes := [(.tmp 6)]
theorem t73 : Try.f73.body.bind (trCode Try.prog Try.f73.ntmps) = some (strip c73) := by kernel_rfl
theorem q73 : trRes Try.prog Try.f73.results.toList = some r73 := by kernel_rfl
theorem fn73 : Try.prog.funcs[73]? = some Try.f73 := by kernel_rfl
theorem nn73 : (Try.f73.name == "runtime.NumGoroutine") = false := by kernel_rfl
theorem nt73 : Try.f73.ntmps = 66 := by kernel_rfl
end Go.Proofs.Ythdjloegibenoaa
