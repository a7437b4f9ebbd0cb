/- The code of some functions of the program,cleaned: printed by a program of mine,checked here. -/
import Derived.Test.YtkmmngphcodjjaaProg
import Derived.Test.YtkmmngphcodjjaaAS
import Derived.Test.YtkmmngphcodjjaaCB
import Derived.KernelRfl
namespace Go.Proofs.Ytkmmngphcodjjaa
open Go.Abs AVal
/- live: [0,5,6,16,17,18] -/
/- live: [0,1,4,6,27,28] -/
/- live: [0,5,6,8,9,13,14,15] -/
/- live: [0,5,6,13,14,15] -/
/- live: [0,1,5,6,7,16,17,20,21,22] -/
/- live: [0,1,5,16,17] -/
/- live: [0,1,7,8,13,14,15,21,22,23] -/
/- live: [0,1,13,14,15] -/
end Go.Proofs.Ytkmmngphcodjjaa
namespace Go.Proofs.Ytkmmngphcodjjaa
open Go.Abs AVal
/- live: [0,1,2,8,9] -/
/- live: [0,1,2,3,8,9,14,15] -/
/- live: [0,1,7,8,9,16,17,18,22,23,24] -/
/- live: [0,1,16,17,18] -/
/- live: [0,1,2,8] -/
/- live: [0,1,2,3,4,5,6,37,38] -/
/- live: [0,1,2,3,4,5,6] -/
end Go.Proofs.Ytkmmngphcodjjaa
namespace Go.Proofs.Ytkmmngphcodjjaa
open Go.Abs AVal
def c46T1 : ICode :=
  (.keep [] (.seq (.ops [⟨(some 6),(.mv (.k (B true))),none⟩])
  .ret))
theorem w46T1 {x : Cx} {Q : QT} {ks : List Kont} {fr : Fr} {H : AHeap} {ms : List Nat} : W x Q c46T1 ks fr H ms = W x Q (.keep [] (.seq (.ops [⟨(some 6),(.mv (.k (B true))),none⟩])
    .ret)) ks fr H ms := rfl
/- live: [1,2,15,16,17] -/
def c46L0 : ICode :=
  (.seq (.ops [⟨(some 18),(.bin .lss (.t 17) (.t 16)),none⟩])
  (.seq (.cond (.t 18)
    .skip
    (.exit 0))
  (.seq (.block 1 (.seq (.ops [⟨(some 19),(.mv (.t 17)),none⟩,
    ⟨(some 20),(.ixS 1 (.t 15) (.t 17)),none⟩,
    ⟨(some 21),(.load false 1 (.t 20)),none⟩,
    ⟨(some 7),(.mv (.t 19)),none⟩,
    ⟨(some 8),(.mv (.t 21)),none⟩])
  (.seq (.ops [⟨(some 22),(.mv (.t 1)),none⟩,
    ⟨(some 23),(.mv (.t 7)),none⟩,
    ⟨(some 24),(.ixS 1 (.t 22) (.t 23)),none⟩,
    ⟨(some 25),(.load false 1 (.t 24)),none⟩,
    ⟨(some 9),(.mv (.t 25)),none⟩])
  (.seq (.ops [⟨(some 26),(.mv (.t 2)),none⟩,
    ⟨(some 27),(.mv (.t 8)),none⟩,
    ⟨(some 28),(.mv (.t 9)),none⟩,
    ⟨(some 29),(.call (.t 26) [(.t 27),(.t 28)]),none⟩,
    ⟨(some 30),(.un .not (.t 29)),none⟩])
  (.cond (.t 30)
    (.seq (.ops [⟨(some 6),(.mv (.k (B false))),none⟩])
    .ret)
    .skip)))))
  (.ops [⟨(some 31),(.bin .add (.t 17) (.k (I 1))),none⟩,
    ⟨(some 17),(.mv (.t 31)),none⟩]))))
theorem w46L0 {x : Cx} {Q : QT} {ks : List Kont} {fr : Fr} {H : AHeap} {ms : List Nat} : W x Q c46L0 ks fr H ms = W x Q (.seq (.ops [⟨(some 18),(.bin .lss (.t 17) (.t 16)),none⟩])
    (.seq (.cond (.t 18)
      .skip
      (.exit 0))
    (.seq (.block 1 (.seq (.ops [⟨(some 19),(.mv (.t 17)),none⟩,
      ⟨(some 20),(.ixS 1 (.t 15) (.t 17)),none⟩,
      ⟨(some 21),(.load false 1 (.t 20)),none⟩,
      ⟨(some 7),(.mv (.t 19)),none⟩,
      ⟨(some 8),(.mv (.t 21)),none⟩])
    (.seq (.ops [⟨(some 22),(.mv (.t 1)),none⟩,
      ⟨(some 23),(.mv (.t 7)),none⟩,
      ⟨(some 24),(.ixS 1 (.t 22) (.t 23)),none⟩,
      ⟨(some 25),(.load false 1 (.t 24)),none⟩,
      ⟨(some 9),(.mv (.t 25)),none⟩])
    (.seq (.ops [⟨(some 26),(.mv (.t 2)),none⟩,
      ⟨(some 27),(.mv (.t 8)),none⟩,
      ⟨(some 28),(.mv (.t 9)),none⟩,
      ⟨(some 29),(.call (.t 26) [(.t 27),(.t 28)]),none⟩,
      ⟨(some 30),(.un .not (.t 29)),none⟩])
    (.cond (.t 30)
      (.seq (.ops [⟨(some 6),(.mv (.k (B false))),none⟩])
      .ret)
      .skip)))))
    (.ops [⟨(some 31),(.bin .add (.t 17) (.k (I 1))),none⟩,
      ⟨(some 17),(.mv (.t 31)),none⟩])))) ks fr H ms := rfl
def c46 : ICode :=
  (.seq (.ops [⟨(some 6),(.mv (.k (B false))),none⟩])
  (.seq (.seq (.ops [⟨(some 10),(.mv (.t 0)),none⟩,
    ⟨(some 11),(.len (.t 10)),none⟩,
    ⟨(some 12),(.mv (.t 1)),none⟩,
    ⟨(some 13),(.len (.t 12)),none⟩,
    ⟨(some 14),(.bin .neq (.t 11) (.t 13)),none⟩])
  (.cond (.t 14)
    (.seq (.ops [⟨(some 6),(.mv (.k (B false))),none⟩])
    .ret)
    .skip))
  (.seq (.seq (.ops [⟨(some 15),(.mv (.t 0)),none⟩,
    ⟨(some 16),(.len (.t 15)),none⟩,
    ⟨(some 17),(.mv (.k (I 0))),none⟩])
  (.block 0 (.loop c46L0)))
  c46T1)))
theorem w46 {x : Cx} {Q : QT} {ks : List Kont} {fr : Fr} {H : AHeap} {ms : List Nat} : W x Q c46 ks fr H ms = W x Q (.seq (.ops [⟨(some 6),(.mv (.k (B false))),none⟩])
    (.seq (.seq (.ops [⟨(some 10),(.mv (.t 0)),none⟩,
      ⟨(some 11),(.len (.t 10)),none⟩,
      ⟨(some 12),(.mv (.t 1)),none⟩,
      ⟨(some 13),(.len (.t 12)),none⟩,
      ⟨(some 14),(.bin .neq (.t 11) (.t 13)),none⟩])
    (.cond (.t 14)
      (.seq (.ops [⟨(some 6),(.mv (.k (B false))),none⟩])
      .ret)
      .skip))
    (.seq (.seq (.ops [⟨(some 15),(.mv (.t 0)),none⟩,
      ⟨(some 16),(.len (.t 15)),none⟩,
      ⟨(some 17),(.mv (.k (I 0))),none⟩])
    (.block 0 (.loop c46L0)))
    c46T1))) ks fr H ms := rfl
def r46 : List IRes := [(.tmp 6)]
theorem t46 : Try.f46.body.bind (trCode Try.prog Try.f46.ntmps) = some (strip c46) := by kernel_rfl
theorem q46 : trRes Try.prog Try.f46.results.toList = some r46 := by kernel_rfl
theorem fn46 : Try.prog.funcs[46]? = some Try.f46 := by kernel_rfl
theorem nn46 : (Try.f46.name == "runtime.NumGoroutine") = false := by kernel_rfl
theorem nt46 : Try.f46.ntmps = 32 := by kernel_rfl
/- live: [0,3,10,11,12] -/
/- live: [0,1,18,24,158,159,160,172,173,174] -/
/- live: [0,1,18,158,159,160] -/
/- live: [0,1,14,16,18,138,139,140] -/
/- live: [0,1,7,8,49,50,51,56,57,58] -/
/- live: [0,1,7,49,50,51] -/
/- live: [0,1,5,60,61,62] -/
/- live: [0,2,148,149,150] -/
def c45T1 : ICode :=
  (.keep [0,1] (.seq (.seq (.ops [⟨(some 31),(.mv (.t 0)),none⟩,
    ⟨(some 32),(.len (.t 31)),none⟩,
    ⟨(some 33),(.mv (.t 1)),none⟩,
    ⟨(some 34),(.len (.t 33)),none⟩,
    ⟨(some 35),(.bin .lss (.t 32) (.t 34)),none⟩])
  (.cond (.t 35)
    (.seq (.ops [⟨(some 4),(.mv (.k (I (-1)))),none⟩])
    .ret)
    .skip))
  (.seq (.ops [⟨(some 4),(.mv (.k (I 0))),none⟩])
  .ret)))
theorem w45T1 {x : Cx} {Q : QT} {ks : List Kont} {fr : Fr} {H : AHeap} {ms : List Nat} : W x Q c45T1 ks fr H ms = W x Q (.keep [0,1] (.seq (.seq (.ops [⟨(some 31),(.mv (.t 0)),none⟩,
      ⟨(some 32),(.len (.t 31)),none⟩,
      ⟨(some 33),(.mv (.t 1)),none⟩,
      ⟨(some 34),(.len (.t 33)),none⟩,
      ⟨(some 35),(.bin .lss (.t 32) (.t 34)),none⟩])
    (.cond (.t 35)
      (.seq (.ops [⟨(some 4),(.mv (.k (I (-1)))),none⟩])
      .ret)
      .skip))
    (.seq (.ops [⟨(some 4),(.mv (.k (I 0))),none⟩])
    .ret))) ks fr H ms := rfl
/- live: [0,1,9,10,11] -/
def c45L0 : ICode :=
  (.seq (.ops [⟨(some 12),(.bin .lss (.t 11) (.t 10)),none⟩])
  (.seq (.cond (.t 12)
    .skip
    (.exit 0))
  (.seq (.block 1 (.seq (.ops [⟨(some 13),(.mv (.t 11)),none⟩,
    ⟨(some 14),(.ixS 1 (.t 9) (.t 11)),none⟩,
    ⟨(some 15),(.load false 1 (.t 14)),none⟩,
    ⟨(some 5),(.mv (.t 13)),none⟩,
    ⟨(some 6),(.mv (.t 15)),none⟩])
  (.seq (.seq (.ops [⟨(some 16),(.mv (.t 5)),none⟩,
    ⟨(some 17),(.mv (.t 1)),none⟩,
    ⟨(some 18),(.len (.t 17)),none⟩,
    ⟨(some 19),(.bin .geq (.t 16) (.t 18)),none⟩])
  (.cond (.t 19)
    (.seq (.ops [⟨(some 4),(.mv (.k (I 1))),none⟩])
    .ret)
    .skip))
  (.seq (.ops [⟨(some 20),(.mv (.t 1)),none⟩,
    ⟨(some 21),(.mv (.t 5)),none⟩,
    ⟨(some 22),(.ixS 1 (.t 20) (.t 21)),none⟩,
    ⟨(some 23),(.load false 1 (.t 22)),none⟩,
    ⟨(some 7),(.mv (.t 23)),none⟩])
  (.seq (.ops [⟨(some 24),(.mv (.t 6)),none⟩,
    ⟨(some 25),(.mv (.t 7)),none⟩,
    ⟨(some 26),(.call (.k (.fn (.func 69) [] [])) [(.t 24),(.t 25)]),none⟩,
    ⟨(some 8),(.mv (.t 26)),none⟩])
  (.seq (.ops [⟨(some 27),(.mv (.t 8)),none⟩,
    ⟨(some 28),(.bin .neq (.t 27) (.k (I 0))),none⟩])
  (.cond (.t 28)
    (.seq (.ops [⟨(some 29),(.mv (.t 8)),none⟩,
      ⟨(some 4),(.mv (.t 29)),none⟩])
    .ret)
    .skip)))))))
  (.ops [⟨(some 30),(.bin .add (.t 11) (.k (I 1))),none⟩,
    ⟨(some 11),(.mv (.t 30)),none⟩]))))
theorem w45L0 {x : Cx} {Q : QT} {ks : List Kont} {fr : Fr} {H : AHeap} {ms : List Nat} : W x Q c45L0 ks fr H ms = W x Q (.seq (.ops [⟨(some 12),(.bin .lss (.t 11) (.t 10)),none⟩])
    (.seq (.cond (.t 12)
      .skip
      (.exit 0))
    (.seq (.block 1 (.seq (.ops [⟨(some 13),(.mv (.t 11)),none⟩,
      ⟨(some 14),(.ixS 1 (.t 9) (.t 11)),none⟩,
      ⟨(some 15),(.load false 1 (.t 14)),none⟩,
      ⟨(some 5),(.mv (.t 13)),none⟩,
      ⟨(some 6),(.mv (.t 15)),none⟩])
    (.seq (.seq (.ops [⟨(some 16),(.mv (.t 5)),none⟩,
      ⟨(some 17),(.mv (.t 1)),none⟩,
      ⟨(some 18),(.len (.t 17)),none⟩,
      ⟨(some 19),(.bin .geq (.t 16) (.t 18)),none⟩])
    (.cond (.t 19)
      (.seq (.ops [⟨(some 4),(.mv (.k (I 1))),none⟩])
      .ret)
      .skip))
    (.seq (.ops [⟨(some 20),(.mv (.t 1)),none⟩,
      ⟨(some 21),(.mv (.t 5)),none⟩,
      ⟨(some 22),(.ixS 1 (.t 20) (.t 21)),none⟩,
      ⟨(some 23),(.load false 1 (.t 22)),none⟩,
      ⟨(some 7),(.mv (.t 23)),none⟩])
    (.seq (.ops [⟨(some 24),(.mv (.t 6)),none⟩,
      ⟨(some 25),(.mv (.t 7)),none⟩,
      ⟨(some 26),(.call (.k (.fn (.func 69) [] [])) [(.t 24),(.t 25)]),none⟩,
      ⟨(some 8),(.mv (.t 26)),none⟩])
    (.seq (.ops [⟨(some 27),(.mv (.t 8)),none⟩,
      ⟨(some 28),(.bin .neq (.t 27) (.k (I 0))),none⟩])
    (.cond (.t 28)
      (.seq (.ops [⟨(some 29),(.mv (.t 8)),none⟩,
        ⟨(some 4),(.mv (.t 29)),none⟩])
      .ret)
      .skip)))))))
    (.ops [⟨(some 30),(.bin .add (.t 11) (.k (I 1))),none⟩,
      ⟨(some 11),(.mv (.t 30)),none⟩])))) ks fr H ms := rfl
def c45 : ICode :=
  (.seq (.ops [⟨(some 4),(.mv (.k (I 0))),none⟩])
  (.seq (.seq (.ops [⟨(some 9),(.mv (.t 0)),none⟩,
    ⟨(some 10),(.len (.t 9)),none⟩,
    ⟨(some 11),(.mv (.k (I 0))),none⟩])
  (.block 0 (.loop c45L0)))
  c45T1))
theorem w45 {x : Cx} {Q : QT} {ks : List Kont} {fr : Fr} {H : AHeap} {ms : List Nat} : W x Q c45 ks fr H ms = W x Q (.seq (.ops [⟨(some 4),(.mv (.k (I 0))),none⟩])
    (.seq (.seq (.ops [⟨(some 9),(.mv (.t 0)),none⟩,
      ⟨(some 10),(.len (.t 9)),none⟩,
      ⟨(some 11),(.mv (.k (I 0))),none⟩])
    (.block 0 (.loop c45L0)))
    c45T1)) ks fr H ms := rfl
def r45 : List IRes := [(.tmp 4)]
theorem t45 : Try.f45.body.bind (trCode Try.prog Try.f45.ntmps) = some (strip c45) := by kernel_rfl
theorem q45 : trRes Try.prog Try.f45.results.toList = some r45 := by kernel_rfl
theorem fn45 : Try.prog.funcs[45]? = some Try.f45 := by kernel_rfl
theorem nn45 : (Try.f45.name == "runtime.NumGoroutine") = false := by kernel_rfl
theorem nt45 : Try.f45.ntmps = 36 := by kernel_rfl
def c65T1 : ICode :=
  (.keep [] (.seq (.ops [⟨(some 4),(.mv (.k (I (-1)))),none⟩])
  .ret))
theorem w65T1 {x : Cx} {Q : QT} {ks : List Kont} {fr : Fr} {H : AHeap} {ms : List Nat} : W x Q c65T1 ks fr H ms = W x Q (.keep [] (.seq (.ops [⟨(some 4),(.mv (.k (I (-1)))),none⟩])
    .ret)) ks fr H ms := rfl
/- live: [0,1,7,8] -/
def c65L0 : ICode :=
  (.seq (.ops [⟨(some 9),(.bin .lss (.t 8) (.t 7)),none⟩])
  (.seq (.cond (.t 9)
    .skip
    (.exit 0))
  (.seq (.block 1 (.seq (.ops [⟨(some 10),(.mv (.t 8)),none⟩,
    ⟨(some 5),(.mv (.t 10)),none⟩])
  (.seq (.ops [⟨(some 11),(.mv (.t 1)),none⟩,
    ⟨(some 12),(.mv (.t 0)),none⟩,
    ⟨(some 13),(.mv (.t 5)),none⟩,
    ⟨(some 14),(.ixS 1 (.t 12) (.t 13)),none⟩,
    ⟨(some 15),(.load false 1 (.t 14)),none⟩,
    ⟨(some 16),(.call (.t 11) [(.t 15)]),none⟩])
  (.cond (.t 16)
    (.seq (.ops [⟨(some 17),(.mv (.t 5)),none⟩,
      ⟨(some 4),(.mv (.t 17)),none⟩])
    .ret)
    .skip))))
  (.ops [⟨(some 18),(.bin .add (.t 8) (.k (I 1))),none⟩,
    ⟨(some 8),(.mv (.t 18)),none⟩]))))
theorem w65L0 {x : Cx} {Q : QT} {ks : List Kont} {fr : Fr} {H : AHeap} {ms : List Nat} : W x Q c65L0 ks fr H ms = W x Q (.seq (.ops [⟨(some 9),(.bin .lss (.t 8) (.t 7)),none⟩])
    (.seq (.cond (.t 9)
      .skip
      (.exit 0))
    (.seq (.block 1 (.seq (.ops [⟨(some 10),(.mv (.t 8)),none⟩,
      ⟨(some 5),(.mv (.t 10)),none⟩])
    (.seq (.ops [⟨(some 11),(.mv (.t 1)),none⟩,
      ⟨(some 12),(.mv (.t 0)),none⟩,
      ⟨(some 13),(.mv (.t 5)),none⟩,
      ⟨(some 14),(.ixS 1 (.t 12) (.t 13)),none⟩,
      ⟨(some 15),(.load false 1 (.t 14)),none⟩,
      ⟨(some 16),(.call (.t 11) [(.t 15)]),none⟩])
    (.cond (.t 16)
      (.seq (.ops [⟨(some 17),(.mv (.t 5)),none⟩,
        ⟨(some 4),(.mv (.t 17)),none⟩])
      .ret)
      .skip))))
    (.ops [⟨(some 18),(.bin .add (.t 8) (.k (I 1))),none⟩,
      ⟨(some 8),(.mv (.t 18)),none⟩])))) ks fr H ms := rfl
def c65 : ICode :=
  (.seq (.ops [⟨(some 4),(.mv (.k (I 0))),none⟩])
  (.seq (.seq (.ops [⟨(some 6),(.mv (.t 0)),none⟩,
    ⟨(some 7),(.len (.t 6)),none⟩,
    ⟨(some 8),(.mv (.k (I 0))),none⟩])
  (.block 0 (.loop c65L0)))
  c65T1))
theorem w65 {x : Cx} {Q : QT} {ks : List Kont} {fr : Fr} {H : AHeap} {ms : List Nat} : W x Q c65 ks fr H ms = W x Q (.seq (.ops [⟨(some 4),(.mv (.k (I 0))),none⟩])
    (.seq (.seq (.ops [⟨(some 6),(.mv (.t 0)),none⟩,
      ⟨(some 7),(.len (.t 6)),none⟩,
      ⟨(some 8),(.mv (.k (I 0))),none⟩])
    (.block 0 (.loop c65L0)))
    c65T1)) ks fr H ms := rfl
def r65 : List IRes := [(.tmp 4)]
theorem t65 : Try.f65.body.bind (trCode Try.prog Try.f65.ntmps) = some (strip c65) := by kernel_rfl
theorem q65 : trRes Try.prog Try.f65.results.toList = some r65 := by kernel_rfl
theorem fn65 : Try.prog.funcs[65]? = some Try.f65 := by kernel_rfl
theorem nn65 : (Try.f65.name == "runtime.NumGoroutine") = false := by kernel_rfl
theorem nt65 : Try.f65.ntmps = 19 := by kernel_rfl
def c69 : ICode :=
  (.seq (.ops [⟨(some 4),(.mv (.k (I 0))),none⟩])
  (.seq (.ops [⟨(some 7),(.mv (.t 0)),none⟩,
    ⟨(some 8),(.call (.k (.fn (.func 86) [] [])) [(.t 7)]),none⟩,
    ⟨(some 5),(.mv (.t 8)),none⟩])
  (.seq (.ops [⟨(some 9),(.mv (.t 1)),none⟩,
    ⟨(some 10),(.call (.k (.fn (.func 86) [] [])) [(.t 9)]),none⟩,
    ⟨(some 6),(.mv (.t 10)),none⟩])
  (.seq (.seq (.ops [⟨(some 11),(.mv (.t 5)),none⟩])
  (.cond (.t 11)
    (.seq (.seq (.ops [⟨(some 12),(.mv (.t 6)),none⟩])
    (.cond (.t 12)
      (.seq (.ops [⟨(some 4),(.mv (.k (I 0))),none⟩])
      .ret)
      .skip))
    (.seq (.ops [⟨(some 4),(.mv (.k (I (-1)))),none⟩])
    .ret))
    .skip))
  (.seq (.seq (.ops [⟨(some 13),(.mv (.t 6)),none⟩])
  (.cond (.t 13)
    (.seq (.ops [⟨(some 4),(.mv (.k (I 1))),none⟩])
    .ret)
    .skip))
  (.seq (.seq (.ops [⟨(some 14),(.mv (.t 0)),none⟩,
    ⟨(some 15),(.mv (.t 1)),none⟩,
    ⟨(some 16),(.bin .lss (.t 14) (.t 15)),none⟩])
  (.cond (.t 16)
    (.seq (.ops [⟨(some 4),(.mv (.k (I (-1)))),none⟩])
    .ret)
    .skip))
  (.seq (.seq (.ops [⟨(some 17),(.mv (.t 0)),none⟩,
    ⟨(some 18),(.mv (.t 1)),none⟩,
    ⟨(some 19),(.bin .gtr (.t 17) (.t 18)),none⟩])
  (.cond (.t 19)
    (.seq (.ops [⟨(some 4),(.mv (.k (I 1))),none⟩])
    .ret)
    .skip))
  (.seq (.ops [⟨(some 4),(.mv (.k (I 0))),none⟩])
  .ret))))))))
theorem w69 {x : Cx} {Q : QT} {ks : List Kont} {fr : Fr} {H : AHeap} {ms : List Nat} : W x Q c69 ks fr H ms = W x Q (.seq (.ops [⟨(some 4),(.mv (.k (I 0))),none⟩])
    (.seq (.ops [⟨(some 7),(.mv (.t 0)),none⟩,
      ⟨(some 8),(.call (.k (.fn (.func 86) [] [])) [(.t 7)]),none⟩,
      ⟨(some 5),(.mv (.t 8)),none⟩])
    (.seq (.ops [⟨(some 9),(.mv (.t 1)),none⟩,
      ⟨(some 10),(.call (.k (.fn (.func 86) [] [])) [(.t 9)]),none⟩,
      ⟨(some 6),(.mv (.t 10)),none⟩])
    (.seq (.seq (.ops [⟨(some 11),(.mv (.t 5)),none⟩])
    (.cond (.t 11)
      (.seq (.seq (.ops [⟨(some 12),(.mv (.t 6)),none⟩])
      (.cond (.t 12)
        (.seq (.ops [⟨(some 4),(.mv (.k (I 0))),none⟩])
        .ret)
        .skip))
      (.seq (.ops [⟨(some 4),(.mv (.k (I (-1)))),none⟩])
      .ret))
      .skip))
    (.seq (.seq (.ops [⟨(some 13),(.mv (.t 6)),none⟩])
    (.cond (.t 13)
      (.seq (.ops [⟨(some 4),(.mv (.k (I 1))),none⟩])
      .ret)
      .skip))
    (.seq (.seq (.ops [⟨(some 14),(.mv (.t 0)),none⟩,
      ⟨(some 15),(.mv (.t 1)),none⟩,
      ⟨(some 16),(.bin .lss (.t 14) (.t 15)),none⟩])
    (.cond (.t 16)
      (.seq (.ops [⟨(some 4),(.mv (.k (I (-1)))),none⟩])
      .ret)
      .skip))
    (.seq (.seq (.ops [⟨(some 17),(.mv (.t 0)),none⟩,
      ⟨(some 18),(.mv (.t 1)),none⟩,
      ⟨(some 19),(.bin .gtr (.t 17) (.t 18)),none⟩])
    (.cond (.t 19)
      (.seq (.ops [⟨(some 4),(.mv (.k (I 1))),none⟩])
      .ret)
      .skip))
    (.seq (.ops [⟨(some 4),(.mv (.k (I 0))),none⟩])
    .ret)))))))) ks fr H ms := rfl
def r69 : List IRes := [(.tmp 4)]
theorem t69 : Try.f69.body.bind (trCode Try.prog Try.f69.ntmps) = some (strip c69) := by kernel_rfl
theorem q69 : trRes Try.prog Try.f69.results.toList = some r69 := by kernel_rfl
theorem fn69 : Try.prog.funcs[69]? = some Try.f69 := by kernel_rfl
theorem nn69 : (Try.f69.name == "runtime.NumGoroutine") = false := by kernel_rfl
theorem nt69 : Try.f69.ntmps = 20 := by kernel_rfl
def c86 : ICode :=
  (.seq (.ops [⟨(some 2),(.mv (.k (B false))),none⟩])
  (.seq (.ops [⟨(some 3),(.mv (.t 0)),none⟩,
    ⟨(some 4),(.mv (.t 0)),none⟩,
    ⟨(some 5),(.bin .neq (.t 3) (.t 4)),none⟩,
    ⟨(some 2),(.mv (.t 5)),none⟩])
  .ret))
theorem w86 {x : Cx} {Q : QT} {ks : List Kont} {fr : Fr} {H : AHeap} {ms : List Nat} : W x Q c86 ks fr H ms = W x Q (.seq (.ops [⟨(some 2),(.mv (.k (B false))),none⟩])
    (.seq (.ops [⟨(some 3),(.mv (.t 0)),none⟩,
      ⟨(some 4),(.mv (.t 0)),none⟩,
      ⟨(some 5),(.bin .neq (.t 3) (.t 4)),none⟩,
      ⟨(some 2),(.mv (.t 5)),none⟩])
    .ret)) ks fr H ms := rfl
def r86 : List IRes := [(.tmp 2)]
theorem t86 : Try.f86.body.bind (trCode Try.prog Try.f86.ntmps) = some (strip c86) := by kernel_rfl
theorem q86 : trRes Try.prog Try.f86.results.toList = some r86 := by kernel_rfl
theorem fn86 : Try.prog.funcs[86]? = some Try.f86 := by kernel_rfl
theorem nn86 : (Try.f86.name == "runtime.NumGoroutine") = false := by kernel_rfl
theorem nt86 : Try.f86.ntmps = 6 := by kernel_rfl
end Go.Proofs.Ytkmmngphcodjjaa
