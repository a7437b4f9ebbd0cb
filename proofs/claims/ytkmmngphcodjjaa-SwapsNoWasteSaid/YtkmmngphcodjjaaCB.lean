/- The code of some functions of the program,cleaned: printed by a program of mine,checked here. -/
import Derived.Test.YtkmmngphcodjjaaProg
import Derived.Test.YtkmmngphcodjjaaAS
import Derived.Test.YtkmmngphcodjjaaCA
import Derived.KernelRfl
namespace Go.Proofs.Ytkmmngphcodjjaa
open Go.Abs AVal
def c3 : ICode :=
  (.seq (.ops [⟨(some 2),(.mv (.k (B false))),none⟩])
  (.seq (.ops [⟨(some 8),(.mv (.t 0)),none⟩,
    ⟨(some 9),(.call (.k (.fn (.func 16) [] [])) [(.t 8)]),none⟩,
    ⟨(some 10),(.call (.k (.fn (.func 15) [] [])) [(.t 9)]),none⟩,
    ⟨(some 7),(.mv (.t 10)),none⟩,
    ⟨(some 11),(.ext (.t 7) 0),none⟩,
    ⟨(some 12),(.ext (.t 7) 1),none⟩,
    ⟨(some 3),(.mv (.t 11)),none⟩,
    ⟨(some 4),(.mv (.t 12)),none⟩])
  (.seq (.ops [⟨(some 14),(.mv (.t 0)),none⟩,
    ⟨(some 15),(.call (.k (.fn (.func 16) [] [])) [(.t 14)]),none⟩,
    ⟨(some 16),(.call (.k (.fn (.func 17) [] [])) [(.t 15)]),none⟩,
    ⟨(some 13),(.mv (.t 16)),none⟩,
    ⟨(some 17),(.ext (.t 13) 0),none⟩,
    ⟨(some 18),(.ext (.t 13) 1),none⟩,
    ⟨(some 5),(.mv (.t 17)),none⟩,
    ⟨(some 6),(.mv (.t 18)),none⟩])
  (.seq (.seq (.ops [⟨(some 19),(.mv (.t 0)),none⟩,
    ⟨(some 20),(.call (.k (.fn (.func 18) [] [])) [(.t 19)]),none⟩,
    ⟨(some 21),(.un .not (.t 20)),none⟩])
  (.cond (.t 21)
    (.seq (.ops [⟨(some 22),(.mv (.t 3)),none⟩,
      ⟨(some 23),(.len (.t 22)),none⟩,
      ⟨(some 24),(.mv (.t 5)),none⟩,
      ⟨(some 25),(.len (.t 24)),none⟩,
      ⟨(some 26),(.bin .add (.t 23) (.t 25)),none⟩,
      ⟨(some 27),(.bin .eql (.t 26) (.k (I 0))),none⟩,
      ⟨(some 28),(.mv (.t 27)),none⟩,
      ⟨(some 29),(.mv (.t 4)),(some (28,true))⟩,
      ⟨(some 30),(.bin .eql (.t 29) (.k (I 2))),(some (28,true))⟩,
      ⟨(some 31),(.pick (.t 28) (.t 30) (.k (B false))),none⟩,
      ⟨(some 32),(.mv (.t 31)),none⟩,
      ⟨(some 33),(.mv (.t 6)),(some (32,true))⟩,
      ⟨(some 34),(.bin .eql (.t 33) (.k (I 2))),(some (32,true))⟩,
      ⟨(some 35),(.pick (.t 32) (.t 34) (.k (B false))),none⟩,
      ⟨(some 36),(.mv (.t 35)),none⟩,
      ⟨(some 37),(.call (.k (.fn (.func 19) [] [])) []),(some (36,true))⟩,
      ⟨(some 38),(.pick (.t 36) (.t 37) (.k (B false))),none⟩,
      ⟨(some 2),(.mv (.t 38)),none⟩])
    .ret)
    .skip))
  (.seq (.ops [⟨(some 39),(.mv (.t 3)),none⟩,
    ⟨(some 40),(.mv (.t 0)),none⟩,
    ⟨(some 41),(.call (.k (.fn (.func 21) [] [])) [(.t 40)]),none⟩,
    ⟨(some 42),(.call (.k (.fn (.func 20) [] [])) [(.t 39),(.t 41)]),none⟩,
    ⟨(some 43),(.mv (.t 42)),none⟩,
    ⟨(some 44),(.mv (.t 5)),(some (43,true))⟩,
    ⟨(some 45),(.mv (.t 0)),(some (43,true))⟩,
    ⟨(some 46),(.call (.k (.fn (.func 22) [] [])) [(.t 45)]),(some (43,true))⟩,
    ⟨(some 47),(.call (.k (.fn (.func 20) [] [])) [(.t 44),(.t 46)]),(some (43,true))⟩,
    ⟨(some 48),(.pick (.t 43) (.t 47) (.k (B false))),none⟩,
    ⟨(some 49),(.mv (.t 48)),none⟩,
    ⟨(some 50),(.mv (.t 4)),(some (49,true))⟩,
    ⟨(some 51),(.bin .eql (.t 50) (.k (I 0))),(some (49,true))⟩,
    ⟨(some 52),(.pick (.t 49) (.t 51) (.k (B false))),none⟩,
    ⟨(some 53),(.mv (.t 52)),none⟩,
    ⟨(some 54),(.mv (.t 6)),(some (53,true))⟩,
    ⟨(some 55),(.bin .eql (.t 54) (.k (I 0))),(some (53,true))⟩,
    ⟨(some 56),(.pick (.t 53) (.t 55) (.k (B false))),none⟩,
    ⟨(some 57),(.mv (.t 56)),none⟩,
    ⟨(some 58),(.call (.k (.fn (.func 19) [] [])) []),(some (57,true))⟩,
    ⟨(some 59),(.pick (.t 57) (.t 58) (.k (B false))),none⟩,
    ⟨(some 2),(.mv (.t 59)),none⟩])
  .ret)))))
theorem w3 {x : Cx} {Q : QT} {ks : List Kont} {fr : Fr} {H : AHeap} {ms : List Nat} : W x Q c3 ks fr H ms = W x Q (.seq (.ops [⟨(some 2),(.mv (.k (B false))),none⟩])
    (.seq (.ops [⟨(some 8),(.mv (.t 0)),none⟩,
      ⟨(some 9),(.call (.k (.fn (.func 16) [] [])) [(.t 8)]),none⟩,
      ⟨(some 10),(.call (.k (.fn (.func 15) [] [])) [(.t 9)]),none⟩,
      ⟨(some 7),(.mv (.t 10)),none⟩,
      ⟨(some 11),(.ext (.t 7) 0),none⟩,
      ⟨(some 12),(.ext (.t 7) 1),none⟩,
      ⟨(some 3),(.mv (.t 11)),none⟩,
      ⟨(some 4),(.mv (.t 12)),none⟩])
    (.seq (.ops [⟨(some 14),(.mv (.t 0)),none⟩,
      ⟨(some 15),(.call (.k (.fn (.func 16) [] [])) [(.t 14)]),none⟩,
      ⟨(some 16),(.call (.k (.fn (.func 17) [] [])) [(.t 15)]),none⟩,
      ⟨(some 13),(.mv (.t 16)),none⟩,
      ⟨(some 17),(.ext (.t 13) 0),none⟩,
      ⟨(some 18),(.ext (.t 13) 1),none⟩,
      ⟨(some 5),(.mv (.t 17)),none⟩,
      ⟨(some 6),(.mv (.t 18)),none⟩])
    (.seq (.seq (.ops [⟨(some 19),(.mv (.t 0)),none⟩,
      ⟨(some 20),(.call (.k (.fn (.func 18) [] [])) [(.t 19)]),none⟩,
      ⟨(some 21),(.un .not (.t 20)),none⟩])
    (.cond (.t 21)
      (.seq (.ops [⟨(some 22),(.mv (.t 3)),none⟩,
        ⟨(some 23),(.len (.t 22)),none⟩,
        ⟨(some 24),(.mv (.t 5)),none⟩,
        ⟨(some 25),(.len (.t 24)),none⟩,
        ⟨(some 26),(.bin .add (.t 23) (.t 25)),none⟩,
        ⟨(some 27),(.bin .eql (.t 26) (.k (I 0))),none⟩,
        ⟨(some 28),(.mv (.t 27)),none⟩,
        ⟨(some 29),(.mv (.t 4)),(some (28,true))⟩,
        ⟨(some 30),(.bin .eql (.t 29) (.k (I 2))),(some (28,true))⟩,
        ⟨(some 31),(.pick (.t 28) (.t 30) (.k (B false))),none⟩,
        ⟨(some 32),(.mv (.t 31)),none⟩,
        ⟨(some 33),(.mv (.t 6)),(some (32,true))⟩,
        ⟨(some 34),(.bin .eql (.t 33) (.k (I 2))),(some (32,true))⟩,
        ⟨(some 35),(.pick (.t 32) (.t 34) (.k (B false))),none⟩,
        ⟨(some 36),(.mv (.t 35)),none⟩,
        ⟨(some 37),(.call (.k (.fn (.func 19) [] [])) []),(some (36,true))⟩,
        ⟨(some 38),(.pick (.t 36) (.t 37) (.k (B false))),none⟩,
        ⟨(some 2),(.mv (.t 38)),none⟩])
      .ret)
      .skip))
    (.seq (.ops [⟨(some 39),(.mv (.t 3)),none⟩,
      ⟨(some 40),(.mv (.t 0)),none⟩,
      ⟨(some 41),(.call (.k (.fn (.func 21) [] [])) [(.t 40)]),none⟩,
      ⟨(some 42),(.call (.k (.fn (.func 20) [] [])) [(.t 39),(.t 41)]),none⟩,
      ⟨(some 43),(.mv (.t 42)),none⟩,
      ⟨(some 44),(.mv (.t 5)),(some (43,true))⟩,
      ⟨(some 45),(.mv (.t 0)),(some (43,true))⟩,
      ⟨(some 46),(.call (.k (.fn (.func 22) [] [])) [(.t 45)]),(some (43,true))⟩,
      ⟨(some 47),(.call (.k (.fn (.func 20) [] [])) [(.t 44),(.t 46)]),(some (43,true))⟩,
      ⟨(some 48),(.pick (.t 43) (.t 47) (.k (B false))),none⟩,
      ⟨(some 49),(.mv (.t 48)),none⟩,
      ⟨(some 50),(.mv (.t 4)),(some (49,true))⟩,
      ⟨(some 51),(.bin .eql (.t 50) (.k (I 0))),(some (49,true))⟩,
      ⟨(some 52),(.pick (.t 49) (.t 51) (.k (B false))),none⟩,
      ⟨(some 53),(.mv (.t 52)),none⟩,
      ⟨(some 54),(.mv (.t 6)),(some (53,true))⟩,
      ⟨(some 55),(.bin .eql (.t 54) (.k (I 0))),(some (53,true))⟩,
      ⟨(some 56),(.pick (.t 53) (.t 55) (.k (B false))),none⟩,
      ⟨(some 57),(.mv (.t 56)),none⟩,
      ⟨(some 58),(.call (.k (.fn (.func 19) [] [])) []),(some (57,true))⟩,
      ⟨(some 59),(.pick (.t 57) (.t 58) (.k (B false))),none⟩,
      ⟨(some 2),(.mv (.t 59)),none⟩])
    .ret))))) ks fr H ms := rfl
def r3 : List IRes := [(.tmp 2)]
theorem t3 : Try.f3.body.bind (trCode Try.prog Try.f3.ntmps) = some (strip c3) := by kernel_rfl
theorem q3 : trRes Try.prog Try.f3.results.toList = some r3 := by kernel_rfl
theorem fn3 : Try.prog.funcs[3]? = some Try.f3 := by kernel_rfl
theorem nn3 : (Try.f3.name == "runtime.NumGoroutine") = false := by kernel_rfl
theorem nt3 : Try.f3.ntmps = 60 := by kernel_rfl
end Go.Proofs.Ytkmmngphcodjjaa
namespace Go.Proofs.Ytkmmngphcodjjaa
open Go.Abs AVal
def c58T1 : ICode :=
  (.keep [] (.seq (.ops [⟨(some 4),(.mv (.k (I (-1)))),none⟩])
  .ret))
theorem w58T1 {x : Cx} {Q : QT} {ks : List Kont} {fr : Fr} {H : AHeap} {ms : List Nat} : W x Q c58T1 ks fr H ms = W x Q (.keep [] (.seq (.ops [⟨(some 4),(.mv (.k (I (-1)))),none⟩])
    .ret)) ks fr H ms := rfl
/- live: [0,1,7,8] -/
def c58L0 : ICode :=
  (.seq (.ops [⟨(some 9),(.bin .lss (.t 8) (.t 7)),none⟩])
  (.seq (.cond (.t 9)
    .skip
    (.exit 0))
  (.seq (.block 1 (.seq (.ops [⟨(some 10),(.mv (.t 8)),none⟩,
    ⟨(some 5),(.mv (.t 10)),none⟩])
  (.seq (.ops [⟨(some 11),(.mv (.t 1)),none⟩,
    ⟨(some 12),(.mv (.t 0)),none⟩,
    ⟨(some 13),(.mv (.t 5)),none⟩,
    ⟨(some 14),(.ixS 1 (.t 12) (.t 13)),none⟩,
    ⟨(some 15),(.load false 1 (.t 14)),none⟩,
    ⟨(some 16),(.bin .eql (.t 11) (.t 15)),none⟩])
  (.cond (.t 16)
    (.seq (.ops [⟨(some 17),(.mv (.t 5)),none⟩,
      ⟨(some 4),(.mv (.t 17)),none⟩])
    .ret)
    .skip))))
  (.ops [⟨(some 18),(.bin .add (.t 8) (.k (I 1))),none⟩,
    ⟨(some 8),(.mv (.t 18)),none⟩]))))
theorem w58L0 {x : Cx} {Q : QT} {ks : List Kont} {fr : Fr} {H : AHeap} {ms : List Nat} : W x Q c58L0 ks fr H ms = W x Q (.seq (.ops [⟨(some 9),(.bin .lss (.t 8) (.t 7)),none⟩])
    (.seq (.cond (.t 9)
      .skip
      (.exit 0))
    (.seq (.block 1 (.seq (.ops [⟨(some 10),(.mv (.t 8)),none⟩,
      ⟨(some 5),(.mv (.t 10)),none⟩])
    (.seq (.ops [⟨(some 11),(.mv (.t 1)),none⟩,
      ⟨(some 12),(.mv (.t 0)),none⟩,
      ⟨(some 13),(.mv (.t 5)),none⟩,
      ⟨(some 14),(.ixS 1 (.t 12) (.t 13)),none⟩,
      ⟨(some 15),(.load false 1 (.t 14)),none⟩,
      ⟨(some 16),(.bin .eql (.t 11) (.t 15)),none⟩])
    (.cond (.t 16)
      (.seq (.ops [⟨(some 17),(.mv (.t 5)),none⟩,
        ⟨(some 4),(.mv (.t 17)),none⟩])
      .ret)
      .skip))))
    (.ops [⟨(some 18),(.bin .add (.t 8) (.k (I 1))),none⟩,
      ⟨(some 8),(.mv (.t 18)),none⟩])))) ks fr H ms := rfl
def c58 : ICode :=
  (.seq (.ops [⟨(some 4),(.mv (.k (I 0))),none⟩])
  (.seq (.seq (.ops [⟨(some 6),(.mv (.t 0)),none⟩,
    ⟨(some 7),(.len (.t 6)),none⟩,
    ⟨(some 8),(.mv (.k (I 0))),none⟩])
  (.block 0 (.loop c58L0)))
  c58T1))
theorem w58 {x : Cx} {Q : QT} {ks : List Kont} {fr : Fr} {H : AHeap} {ms : List Nat} : W x Q c58 ks fr H ms = W x Q (.seq (.ops [⟨(some 4),(.mv (.k (I 0))),none⟩])
    (.seq (.seq (.ops [⟨(some 6),(.mv (.t 0)),none⟩,
      ⟨(some 7),(.len (.t 6)),none⟩,
      ⟨(some 8),(.mv (.k (I 0))),none⟩])
    (.block 0 (.loop c58L0)))
    c58T1)) ks fr H ms := rfl
def r58 : List IRes := [(.tmp 4)]
theorem t58 : Try.f58.body.bind (trCode Try.prog Try.f58.ntmps) = some (strip c58) := by kernel_rfl
theorem q58 : trRes Try.prog Try.f58.results.toList = some r58 := by kernel_rfl
theorem fn58 : Try.prog.funcs[58]? = some Try.f58 := by kernel_rfl
theorem nn58 : (Try.f58.name == "runtime.NumGoroutine") = false := by kernel_rfl
theorem nt58 : Try.f58.ntmps = 19 := by kernel_rfl
def c24T1 : ICode :=
  (.keep [7] (.seq (.ops [⟨(some 19),(.mv (.t 7)),none⟩,
    ⟨(some 6),(.mv (.t 19)),none⟩])
  .ret))
theorem w24T1 {x : Cx} {Q : QT} {ks : List Kont} {fr : Fr} {H : AHeap} {ms : List Nat} : W x Q c24T1 ks fr H ms = W x Q (.keep [7] (.seq (.ops [⟨(some 19),(.mv (.t 7)),none⟩,
      ⟨(some 6),(.mv (.t 19)),none⟩])
    .ret)) ks fr H ms := rfl
/- live: [0,1,2,7] -/
def c24L0 : ICode :=
  (.seq (.seq (.ops [⟨(some 8),(.mv (.t 0)),none⟩,
    ⟨(some 9),(.mv (.t 1)),none⟩,
    ⟨(some 10),(.ixS 1 (.t 8) (.t 9)),none⟩,
    ⟨(some 11),(.load false 1 (.t 10)),none⟩,
    ⟨(some 12),(.mv (.t 7)),none⟩,
    ⟨(some 13),(.ixS 1 (.t 11) (.t 12)),none⟩,
    ⟨(some 14),(.load false 1 (.t 13)),none⟩,
    ⟨(some 15),(.mv (.t 2)),none⟩,
    ⟨(some 16),(.bin .neq (.t 14) (.t 15)),none⟩])
  (.cond (.t 16)
    .skip
    (.exit 0)))
  (.block 1 (.ops [⟨(some 17),(.mv (.t 7)),none⟩,
    ⟨(some 18),(.bin .add (.t 17) (.k (I 1))),none⟩,
    ⟨(some 7),(.mv (.t 18)),none⟩])))
theorem w24L0 {x : Cx} {Q : QT} {ks : List Kont} {fr : Fr} {H : AHeap} {ms : List Nat} : W x Q c24L0 ks fr H ms = W x Q (.seq (.seq (.ops [⟨(some 8),(.mv (.t 0)),none⟩,
      ⟨(some 9),(.mv (.t 1)),none⟩,
      ⟨(some 10),(.ixS 1 (.t 8) (.t 9)),none⟩,
      ⟨(some 11),(.load false 1 (.t 10)),none⟩,
      ⟨(some 12),(.mv (.t 7)),none⟩,
      ⟨(some 13),(.ixS 1 (.t 11) (.t 12)),none⟩,
      ⟨(some 14),(.load false 1 (.t 13)),none⟩,
      ⟨(some 15),(.mv (.t 2)),none⟩,
      ⟨(some 16),(.bin .neq (.t 14) (.t 15)),none⟩])
    (.cond (.t 16)
      .skip
      (.exit 0)))
    (.block 1 (.ops [⟨(some 17),(.mv (.t 7)),none⟩,
      ⟨(some 18),(.bin .add (.t 17) (.k (I 1))),none⟩,
      ⟨(some 7),(.mv (.t 18)),none⟩]))) ks fr H ms := rfl
def c24 : ICode :=
  (.seq (.ops [⟨(some 6),(.mv (.k (I 0))),none⟩])
  (.seq (.ops [⟨(some 7),(.mv (.k (I 0))),none⟩])
  (.seq (.block 0 (.loop c24L0))
  c24T1)))
theorem w24 {x : Cx} {Q : QT} {ks : List Kont} {fr : Fr} {H : AHeap} {ms : List Nat} : W x Q c24 ks fr H ms = W x Q (.seq (.ops [⟨(some 6),(.mv (.k (I 0))),none⟩])
    (.seq (.ops [⟨(some 7),(.mv (.k (I 0))),none⟩])
    (.seq (.block 0 (.loop c24L0))
    c24T1))) ks fr H ms := rfl
def r24 : List IRes := [(.tmp 6)]
theorem t24 : Try.f24.body.bind (trCode Try.prog Try.f24.ntmps) = some (strip c24) := by kernel_rfl
theorem q24 : trRes Try.prog Try.f24.results.toList = some r24 := by kernel_rfl
theorem fn24 : Try.prog.funcs[24]? = some Try.f24 := by kernel_rfl
theorem nn24 : (Try.f24.name == "runtime.NumGoroutine") = false := by kernel_rfl
theorem nt24 : Try.f24.ntmps = 20 := by kernel_rfl
/- live: [5,7,10] -/
/- live: [0,3,5,7,8,57,58,116,117] -/
/- live: [0,3,5,7,57,58] -/
end Go.Proofs.Ytkmmngphcodjjaa
namespace Go.Proofs.Ytkmmngphcodjjaa
open Go.Abs AVal
def c61 : ICode :=
  (.seq (.ops [⟨(some 6),(.mv (.k (I 0))),none⟩])
  (.seq (.ops [⟨(some 7),(.mv (.t 0)),none⟩,
    ⟨(some 8),(.mv (.t 1)),none⟩,
    ⟨(some 9),(.ixS 1 (.t 7) (.t 8)),none⟩,
    ⟨(some 10),(.load false 1 (.t 9)),none⟩,
    ⟨(some 11),(.mv (.t 2)),none⟩,
    ⟨(some 12),(.call (.k (.fn (.func 58) [] [])) [(.t 10),(.t 11)]),none⟩,
    ⟨(some 6),(.mv (.t 12)),none⟩])
  .ret))
theorem w61 {x : Cx} {Q : QT} {ks : List Kont} {fr : Fr} {H : AHeap} {ms : List Nat} : W x Q c61 ks fr H ms = W x Q (.seq (.ops [⟨(some 6),(.mv (.k (I 0))),none⟩])
    (.seq (.ops [⟨(some 7),(.mv (.t 0)),none⟩,
      ⟨(some 8),(.mv (.t 1)),none⟩,
      ⟨(some 9),(.ixS 1 (.t 7) (.t 8)),none⟩,
      ⟨(some 10),(.load false 1 (.t 9)),none⟩,
      ⟨(some 11),(.mv (.t 2)),none⟩,
      ⟨(some 12),(.call (.k (.fn (.func 58) [] [])) [(.t 10),(.t 11)]),none⟩,
      ⟨(some 6),(.mv (.t 12)),none⟩])
    .ret)) ks fr H ms := rfl
def r61 : List IRes := [(.tmp 6)]
theorem t61 : Try.f61.body.bind (trCode Try.prog Try.f61.ntmps) = some (strip c61) := by kernel_rfl
theorem q61 : trRes Try.prog Try.f61.results.toList = some r61 := by kernel_rfl
theorem fn61 : Try.prog.funcs[61]? = some Try.f61 := by kernel_rfl
theorem nn61 : (Try.f61.name == "runtime.NumGoroutine") = false := by kernel_rfl
theorem nt61 : Try.f61.ntmps = 13 := by kernel_rfl
end Go.Proofs.Ytkmmngphcodjjaa
