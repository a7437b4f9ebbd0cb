/- The code of some functions of the program,cleaned: printed by a program of mine,checked here. -/
import Derived.Test.YtlonaefihjdkpaaProg
import Derived.Test.YtlonaefihjdkpaaAS
import Derived.Test.YtlonaefihjdkpaaUCA
import Derived.KernelRfl
namespace Go.Proofs.Ytlonaefihjdkpaa
open Go.Abs AVal
/- live: [0,5,6,16,17,18] -/
/- live: [0,1,4,6,27,28] -/
/- live: [0,5,6,8,9,13,14,15] -/
/- live: [0,5,6,13,14,15] -/
/- live: [0,1,5,6,7,16,17,20,21,22] -/
/- live: [0,1,5,16,17] -/
/- live: [0,1,7,8,13,14,15,21,22,23] -/
/- live: [0,1,13,14,15] -/
end Go.Proofs.Ytlonaefihjdkpaa
namespace Go.Proofs.Ytlonaefihjdkpaa
open Go.Abs AVal
/- live: [0,1,2,8,9] -/
/- live: [0,1,2,3,8,9,14,15] -/
/- live: [0,1,7,8,9,16,17,18,22,23,24] -/
/- live: [0,1,16,17,18] -/
/- live: [0,1,2,8] -/
/- live: [0,1,2,3,4,5,6,37,38] -/
/- live: [0,1,2,3,4,5,6] -/
end Go.Proofs.Ytlonaefihjdkpaa
namespace Go.Proofs.Ytlonaefihjdkpaa
open Go.Abs AVal
/- live: [1,2,15,16,17] -/
/- live: [0,3,10,11,12] -/
/- live: [0,1,18,24,158,159,160,172,173,174] -/
/- live: [0,1,18,158,159,160] -/
/- live: [0,1,14,16,18,138,139,140] -/
/- live: [0,1,7,8,49,50,51,56,57,58] -/
/- live: [0,1,7,49,50,51] -/
/- live: [0,1,5,60,61,62] -/
/- live: [0,2,148,149,150] -/
def c52T1 : ICode :=
  (.keep [0,1] (.seq (.seq (.ops [⟨(some 31),(.mv (.t 0)),none⟩,
    ⟨(some 32),(.len (.t 31)),none⟩,
    ⟨(some 33),(.mv (.t 1)),none⟩,
    ⟨(some 34),(.len (.t 33)),none⟩,
    ⟨(some 35),(.bin .lss (.t 32) (.t 34)),none⟩])
  (.cond (.t 35)
    (.seq (.ops [⟨(some 4),(.mv (.k (I (-1)))),none⟩])
    .ret)
    .skip))
  (.seq (.ops [⟨(some 4),(.mv (.k (I 0))),none⟩])
  .ret)))
theorem w52T1 {x : Cx} {Q : QT} {ks : List Kont} {fr : Fr} {H : AHeap} {ms : List Nat} : W x Q c52T1 ks fr H ms = W x Q (.keep [0,1] (.seq (.seq (.ops [⟨(some 31),(.mv (.t 0)),none⟩,
      ⟨(some 32),(.len (.t 31)),none⟩,
      ⟨(some 33),(.mv (.t 1)),none⟩,
      ⟨(some 34),(.len (.t 33)),none⟩,
      ⟨(some 35),(.bin .lss (.t 32) (.t 34)),none⟩])
    (.cond (.t 35)
      (.seq (.ops [⟨(some 4),(.mv (.k (I (-1)))),none⟩])
      .ret)
      .skip))
    (.seq (.ops [⟨(some 4),(.mv (.k (I 0))),none⟩])
    .ret))) ks fr H ms := rfl
/- live: [0,1,9,10,11] -/
def c52L0 : ICode :=
  (.seq (.ops [⟨(some 12),(.bin .lss (.t 11) (.t 10)),none⟩])
  (.seq (.cond (.t 12)
    .skip
    (.exit 0))
  (.seq (.block 1 (.seq (.ops [⟨(some 13),(.mv (.t 11)),none⟩,
    ⟨(some 14),(.ixS 1 (.t 9) (.t 11)),none⟩,
    ⟨(some 15),(.load false 1 (.t 14)),none⟩,
    ⟨(some 5),(.mv (.t 13)),none⟩,
    ⟨(some 6),(.mv (.t 15)),none⟩])
  (.seq (.seq (.ops [⟨(some 16),(.mv (.t 5)),none⟩,
    ⟨(some 17),(.mv (.t 1)),none⟩,
    ⟨(some 18),(.len (.t 17)),none⟩,
    ⟨(some 19),(.bin .geq (.t 16) (.t 18)),none⟩])
  (.cond (.t 19)
    (.seq (.ops [⟨(some 4),(.mv (.k (I 1))),none⟩])
    .ret)
    .skip))
  (.seq (.ops [⟨(some 20),(.mv (.t 1)),none⟩,
    ⟨(some 21),(.mv (.t 5)),none⟩,
    ⟨(some 22),(.ixS 1 (.t 20) (.t 21)),none⟩,
    ⟨(some 23),(.load false 1 (.t 22)),none⟩,
    ⟨(some 7),(.mv (.t 23)),none⟩])
  (.seq (.ops [⟨(some 24),(.mv (.t 6)),none⟩,
    ⟨(some 25),(.mv (.t 7)),none⟩,
    ⟨(some 26),(.call (.k (.fn (.func 81) [] [])) [(.t 24),(.t 25)]),none⟩,
    ⟨(some 8),(.mv (.t 26)),none⟩])
  (.seq (.ops [⟨(some 27),(.mv (.t 8)),none⟩,
    ⟨(some 28),(.bin .neq (.t 27) (.k (I 0))),none⟩])
  (.cond (.t 28)
    (.seq (.ops [⟨(some 29),(.mv (.t 8)),none⟩,
      ⟨(some 4),(.mv (.t 29)),none⟩])
    .ret)
    .skip)))))))
  (.ops [⟨(some 30),(.bin .add (.t 11) (.k (I 1))),none⟩,
    ⟨(some 11),(.mv (.t 30)),none⟩]))))
theorem w52L0 {x : Cx} {Q : QT} {ks : List Kont} {fr : Fr} {H : AHeap} {ms : List Nat} : W x Q c52L0 ks fr H ms = W x Q (.seq (.ops [⟨(some 12),(.bin .lss (.t 11) (.t 10)),none⟩])
    (.seq (.cond (.t 12)
      .skip
      (.exit 0))
    (.seq (.block 1 (.seq (.ops [⟨(some 13),(.mv (.t 11)),none⟩,
      ⟨(some 14),(.ixS 1 (.t 9) (.t 11)),none⟩,
      ⟨(some 15),(.load false 1 (.t 14)),none⟩,
      ⟨(some 5),(.mv (.t 13)),none⟩,
      ⟨(some 6),(.mv (.t 15)),none⟩])
    (.seq (.seq (.ops [⟨(some 16),(.mv (.t 5)),none⟩,
      ⟨(some 17),(.mv (.t 1)),none⟩,
      ⟨(some 18),(.len (.t 17)),none⟩,
      ⟨(some 19),(.bin .geq (.t 16) (.t 18)),none⟩])
    (.cond (.t 19)
      (.seq (.ops [⟨(some 4),(.mv (.k (I 1))),none⟩])
      .ret)
      .skip))
    (.seq (.ops [⟨(some 20),(.mv (.t 1)),none⟩,
      ⟨(some 21),(.mv (.t 5)),none⟩,
      ⟨(some 22),(.ixS 1 (.t 20) (.t 21)),none⟩,
      ⟨(some 23),(.load false 1 (.t 22)),none⟩,
      ⟨(some 7),(.mv (.t 23)),none⟩])
    (.seq (.ops [⟨(some 24),(.mv (.t 6)),none⟩,
      ⟨(some 25),(.mv (.t 7)),none⟩,
      ⟨(some 26),(.call (.k (.fn (.func 81) [] [])) [(.t 24),(.t 25)]),none⟩,
      ⟨(some 8),(.mv (.t 26)),none⟩])
    (.seq (.ops [⟨(some 27),(.mv (.t 8)),none⟩,
      ⟨(some 28),(.bin .neq (.t 27) (.k (I 0))),none⟩])
    (.cond (.t 28)
      (.seq (.ops [⟨(some 29),(.mv (.t 8)),none⟩,
        ⟨(some 4),(.mv (.t 29)),none⟩])
      .ret)
      .skip)))))))
    (.ops [⟨(some 30),(.bin .add (.t 11) (.k (I 1))),none⟩,
      ⟨(some 11),(.mv (.t 30)),none⟩])))) ks fr H ms := rfl
def c52 : ICode :=
  (.seq (.ops [⟨(some 4),(.mv (.k (I 0))),none⟩])
  (.seq (.seq (.ops [⟨(some 9),(.mv (.t 0)),none⟩,
    ⟨(some 10),(.len (.t 9)),none⟩,
    ⟨(some 11),(.mv (.k (I 0))),none⟩])
  (.block 0 (.loop c52L0)))
  c52T1))
theorem w52 {x : Cx} {Q : QT} {ks : List Kont} {fr : Fr} {H : AHeap} {ms : List Nat} : W x Q c52 ks fr H ms = W x Q (.seq (.ops [⟨(some 4),(.mv (.k (I 0))),none⟩])
    (.seq (.seq (.ops [⟨(some 9),(.mv (.t 0)),none⟩,
      ⟨(some 10),(.len (.t 9)),none⟩,
      ⟨(some 11),(.mv (.k (I 0))),none⟩])
    (.block 0 (.loop c52L0)))
    c52T1)) ks fr H ms := rfl
def r52 : List IRes := [(.tmp 4)]
theorem t52 : Try.f52.body.bind (trCode Try.prog Try.f52.ntmps) = some (strip c52) := by kernel_rfl
theorem q52 : trRes Try.prog Try.f52.results.toList = some r52 := by kernel_rfl
theorem fn52 : Try.prog.funcs[52]? = some Try.f52 := by kernel_rfl
theorem nn52 : (Try.f52.name == "runtime.NumGoroutine") = false := by kernel_rfl
theorem nt52 : Try.f52.ntmps = 36 := by kernel_rfl
/- live: [0,1,7,8] -/
def c81 : ICode :=
  (.seq (.ops [⟨(some 4),(.mv (.k (I 0))),none⟩])
  (.seq (.ops [⟨(some 7),(.mv (.t 0)),none⟩,
    ⟨(some 8),(.call (.k (.fn (.func 108) [] [])) [(.t 7)]),none⟩,
    ⟨(some 5),(.mv (.t 8)),none⟩])
  (.seq (.ops [⟨(some 9),(.mv (.t 1)),none⟩,
    ⟨(some 10),(.call (.k (.fn (.func 108) [] [])) [(.t 9)]),none⟩,
    ⟨(some 6),(.mv (.t 10)),none⟩])
  (.seq (.seq (.ops [⟨(some 11),(.mv (.t 5)),none⟩])
  (.cond (.t 11)
    (.seq (.seq (.ops [⟨(some 12),(.mv (.t 6)),none⟩])
    (.cond (.t 12)
      (.seq (.ops [⟨(some 4),(.mv (.k (I 0))),none⟩])
      .ret)
      .skip))
    (.seq (.ops [⟨(some 4),(.mv (.k (I (-1)))),none⟩])
    .ret))
    .skip))
  (.seq (.seq (.ops [⟨(some 13),(.mv (.t 6)),none⟩])
  (.cond (.t 13)
    (.seq (.ops [⟨(some 4),(.mv (.k (I 1))),none⟩])
    .ret)
    .skip))
  (.seq (.seq (.ops [⟨(some 14),(.mv (.t 0)),none⟩,
    ⟨(some 15),(.mv (.t 1)),none⟩,
    ⟨(some 16),(.bin .lss (.t 14) (.t 15)),none⟩])
  (.cond (.t 16)
    (.seq (.ops [⟨(some 4),(.mv (.k (I (-1)))),none⟩])
    .ret)
    .skip))
  (.seq (.seq (.ops [⟨(some 17),(.mv (.t 0)),none⟩,
    ⟨(some 18),(.mv (.t 1)),none⟩,
    ⟨(some 19),(.bin .gtr (.t 17) (.t 18)),none⟩])
  (.cond (.t 19)
    (.seq (.ops [⟨(some 4),(.mv (.k (I 1))),none⟩])
    .ret)
    .skip))
  (.seq (.ops [⟨(some 4),(.mv (.k (I 0))),none⟩])
  .ret))))))))
theorem w81 {x : Cx} {Q : QT} {ks : List Kont} {fr : Fr} {H : AHeap} {ms : List Nat} : W x Q c81 ks fr H ms = W x Q (.seq (.ops [⟨(some 4),(.mv (.k (I 0))),none⟩])
    (.seq (.ops [⟨(some 7),(.mv (.t 0)),none⟩,
      ⟨(some 8),(.call (.k (.fn (.func 108) [] [])) [(.t 7)]),none⟩,
      ⟨(some 5),(.mv (.t 8)),none⟩])
    (.seq (.ops [⟨(some 9),(.mv (.t 1)),none⟩,
      ⟨(some 10),(.call (.k (.fn (.func 108) [] [])) [(.t 9)]),none⟩,
      ⟨(some 6),(.mv (.t 10)),none⟩])
    (.seq (.seq (.ops [⟨(some 11),(.mv (.t 5)),none⟩])
    (.cond (.t 11)
      (.seq (.seq (.ops [⟨(some 12),(.mv (.t 6)),none⟩])
      (.cond (.t 12)
        (.seq (.ops [⟨(some 4),(.mv (.k (I 0))),none⟩])
        .ret)
        .skip))
      (.seq (.ops [⟨(some 4),(.mv (.k (I (-1)))),none⟩])
      .ret))
      .skip))
    (.seq (.seq (.ops [⟨(some 13),(.mv (.t 6)),none⟩])
    (.cond (.t 13)
      (.seq (.ops [⟨(some 4),(.mv (.k (I 1))),none⟩])
      .ret)
      .skip))
    (.seq (.seq (.ops [⟨(some 14),(.mv (.t 0)),none⟩,
      ⟨(some 15),(.mv (.t 1)),none⟩,
      ⟨(some 16),(.bin .lss (.t 14) (.t 15)),none⟩])
    (.cond (.t 16)
      (.seq (.ops [⟨(some 4),(.mv (.k (I (-1)))),none⟩])
      .ret)
      .skip))
    (.seq (.seq (.ops [⟨(some 17),(.mv (.t 0)),none⟩,
      ⟨(some 18),(.mv (.t 1)),none⟩,
      ⟨(some 19),(.bin .gtr (.t 17) (.t 18)),none⟩])
    (.cond (.t 19)
      (.seq (.ops [⟨(some 4),(.mv (.k (I 1))),none⟩])
      .ret)
      .skip))
    (.seq (.ops [⟨(some 4),(.mv (.k (I 0))),none⟩])
    .ret)))))))) ks fr H ms := rfl
def r81 : List IRes := [(.tmp 4)]
theorem t81 : Try.f81.body.bind (trCode Try.prog Try.f81.ntmps) = some (strip c81) := by kernel_rfl
theorem q81 : trRes Try.prog Try.f81.results.toList = some r81 := by kernel_rfl
theorem fn81 : Try.prog.funcs[81]? = some Try.f81 := by kernel_rfl
theorem nn81 : (Try.f81.name == "runtime.NumGoroutine") = false := by kernel_rfl
theorem nt81 : Try.f81.ntmps = 20 := by kernel_rfl
def c108 : ICode :=
  (.seq (.ops [⟨(some 2),(.mv (.k (B false))),none⟩])
  (.seq (.ops [⟨(some 3),(.mv (.t 0)),none⟩,
    ⟨(some 4),(.mv (.t 0)),none⟩,
    ⟨(some 5),(.bin .neq (.t 3) (.t 4)),none⟩,
    ⟨(some 2),(.mv (.t 5)),none⟩])
  .ret))
theorem w108 {x : Cx} {Q : QT} {ks : List Kont} {fr : Fr} {H : AHeap} {ms : List Nat} : W x Q c108 ks fr H ms = W x Q (.seq (.ops [⟨(some 2),(.mv (.k (B false))),none⟩])
    (.seq (.ops [⟨(some 3),(.mv (.t 0)),none⟩,
      ⟨(some 4),(.mv (.t 0)),none⟩,
      ⟨(some 5),(.bin .neq (.t 3) (.t 4)),none⟩,
      ⟨(some 2),(.mv (.t 5)),none⟩])
    .ret)) ks fr H ms := rfl
def r108 : List IRes := [(.tmp 2)]
theorem t108 : Try.f108.body.bind (trCode Try.prog Try.f108.ntmps) = some (strip c108) := by kernel_rfl
theorem q108 : trRes Try.prog Try.f108.results.toList = some r108 := by kernel_rfl
theorem fn108 : Try.prog.funcs[108]? = some Try.f108 := by kernel_rfl
theorem nn108 : (Try.f108.name == "runtime.NumGoroutine") = false := by kernel_rfl
theorem nt108 : Try.f108.ntmps = 6 := by kernel_rfl
end Go.Proofs.Ytlonaefihjdkpaa
