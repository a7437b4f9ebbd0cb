/- The code of some functions of the program,cleaned: printed by a program of mine,checked here. -/
import Derived.Test.YtkmmngphcodjjaaProg
import Derived.Test.YtkmmngphcodjjaaAS
import Derived.KernelRfl
namespace Go.Proofs.Ytkmmngphcodjjaa
open Go.Abs AVal
theorem mixed : Try.prog.follows .mixedOrders = true := by kernel_rfl
def c43 : ICode :=
  (.seq (.ops [⟨(some 2),(.mv (.k nilSl)),none⟩])
  (.seq (.seq (.ops [⟨(some 3),(.mv (.t 0)),none⟩,
    ⟨(some 4),(.eqnil false (.t 3)),none⟩])
  (.cond (.t 4)
    (.seq (.ops [⟨(some 2),(.mv (.k nilSl)),none⟩])
    .ret)
    .skip))
  (.seq (.ops [⟨(some 5),(.bslice 1 0 [(I 0)] []),none⟩,
    ⟨(some 6),(.mv (.t 0)),none⟩,
    ⟨(some 7),(.append 1 8 (.t 5) (.t 6)),none⟩,
    ⟨(some 2),(.mv (.t 7)),none⟩])
  .ret)))
theorem w43 {x : Cx} {Q : QT} {ks : List Kont} {fr : Fr} {H : AHeap} {ms : List Nat} : W x Q c43 ks fr H ms = W x Q (.seq (.ops [⟨(some 2),(.mv (.k nilSl)),none⟩])
    (.seq (.seq (.ops [⟨(some 3),(.mv (.t 0)),none⟩,
      ⟨(some 4),(.eqnil false (.t 3)),none⟩])
    (.cond (.t 4)
      (.seq (.ops [⟨(some 2),(.mv (.k nilSl)),none⟩])
      .ret)
      .skip))
    (.seq (.ops [⟨(some 5),(.bslice 1 0 [(I 0)] []),none⟩,
      ⟨(some 6),(.mv (.t 0)),none⟩,
      ⟨(some 7),(.append 1 8 (.t 5) (.t 6)),none⟩,
      ⟨(some 2),(.mv (.t 7)),none⟩])
    .ret))) ks fr H ms := rfl
def r43 : List IRes := [(.tmp 2)]
theorem t43 : Try.f43.body.bind (trCode Try.prog Try.f43.ntmps) = some (strip c43) := by kernel_rfl
theorem q43 : trRes Try.prog Try.f43.results.toList = some r43 := by kernel_rfl
theorem fn43 : Try.prog.funcs[43]? = some Try.f43 := by kernel_rfl
theorem nn43 : (Try.f43.name == "runtime.NumGoroutine") = false := by kernel_rfl
theorem nt43 : Try.f43.ntmps = 8 := by kernel_rfl
def c59T1 : ICode :=
  (.keep [0,1,5] (.seq (.ops [⟨(some 26),(.mv (.t 0)),none⟩,
    ⟨(some 27),(.len (.t 26)),none⟩,
    ⟨(some 28),(.mv (.t 1)),none⟩,
    ⟨(some 29),(.bin .eql (.t 27) (.t 28)),none⟩,
    ⟨(some 30),(.mv (.t 29)),none⟩,
    ⟨(some 31),(.mv (.t 5)),(some (30,true))⟩,
    ⟨(some 32),(.mv (.t 1)),(some (30,true))⟩,
    ⟨(some 33),(.bin .shl (.k (I 1)) (.t 32)),(some (30,true))⟩,
    ⟨(some 34),(.bin .sub (.t 33) (.k (I 1))),(some (30,true))⟩,
    ⟨(some 35),(.bin .eql (.t 31) (.t 34)),(some (30,true))⟩,
    ⟨(some 36),(.pick (.t 30) (.t 35) (.k (B false))),none⟩,
    ⟨(some 4),(.mv (.t 36)),none⟩])
  .ret))
theorem w59T1 {x : Cx} {Q : QT} {ks : List Kont} {fr : Fr} {H : AHeap} {ms : List Nat} : W x Q c59T1 ks fr H ms = W x Q (.keep [0,1,5] (.seq (.ops [⟨(some 26),(.mv (.t 0)),none⟩,
      ⟨(some 27),(.len (.t 26)),none⟩,
      ⟨(some 28),(.mv (.t 1)),none⟩,
      ⟨(some 29),(.bin .eql (.t 27) (.t 28)),none⟩,
      ⟨(some 30),(.mv (.t 29)),none⟩,
      ⟨(some 31),(.mv (.t 5)),(some (30,true))⟩,
      ⟨(some 32),(.mv (.t 1)),(some (30,true))⟩,
      ⟨(some 33),(.bin .shl (.k (I 1)) (.t 32)),(some (30,true))⟩,
      ⟨(some 34),(.bin .sub (.t 33) (.k (I 1))),(some (30,true))⟩,
      ⟨(some 35),(.bin .eql (.t 31) (.t 34)),(some (30,true))⟩,
      ⟨(some 36),(.pick (.t 30) (.t 35) (.k (B false))),none⟩,
      ⟨(some 4),(.mv (.t 36)),none⟩])
    .ret)) ks fr H ms := rfl
/- live: [0,1,5,8,9,10] -/
def c59L0 : ICode :=
  (.seq (.ops [⟨(some 11),(.bin .lss (.t 10) (.t 9)),none⟩])
  (.seq (.cond (.t 11)
    .skip
    (.exit 0))
  (.seq (.block 1 (.seq (.ops [⟨(some 12),(.ixS 1 (.t 8) (.t 10)),none⟩,
    ⟨(some 13),(.load false 1 (.t 12)),none⟩,
    ⟨(some 7),(.mv (.t 13)),none⟩])
  (.seq (.seq (.ops [⟨(some 14),(.mv (.t 7)),none⟩,
    ⟨(some 15),(.bin .lss (.t 14) (.k (I 0))),none⟩,
    ⟨(some 16),(.mv (.t 15)),none⟩,
    ⟨(some 17),(.mv (.t 7)),(some (16,false))⟩,
    ⟨(some 18),(.mv (.t 1)),(some (16,false))⟩,
    ⟨(some 19),(.bin .geq (.t 17) (.t 18)),(some (16,false))⟩,
    ⟨(some 20),(.pick (.t 16) (.k (B true)) (.t 19)),none⟩])
  (.cond (.t 20)
    (.seq (.ops [⟨(some 4),(.mv (.k (B false))),none⟩])
    .ret)
    .skip))
  (.ops [⟨(some 21),(.mv (.t 5)),none⟩,
    ⟨(some 22),(.mv (.t 7)),none⟩,
    ⟨(some 23),(.bin .shl (.k (I 1)) (.t 22)),none⟩,
    ⟨(some 24),(.bin .or (.t 21) (.t 23)),none⟩,
    ⟨(some 5),(.mv (.t 24)),none⟩]))))
  (.ops [⟨(some 25),(.bin .add (.t 10) (.k (I 1))),none⟩,
    ⟨(some 10),(.mv (.t 25)),none⟩]))))
theorem w59L0 {x : Cx} {Q : QT} {ks : List Kont} {fr : Fr} {H : AHeap} {ms : List Nat} : W x Q c59L0 ks fr H ms = W x Q (.seq (.ops [⟨(some 11),(.bin .lss (.t 10) (.t 9)),none⟩])
    (.seq (.cond (.t 11)
      .skip
      (.exit 0))
    (.seq (.block 1 (.seq (.ops [⟨(some 12),(.ixS 1 (.t 8) (.t 10)),none⟩,
      ⟨(some 13),(.load false 1 (.t 12)),none⟩,
      ⟨(some 7),(.mv (.t 13)),none⟩])
    (.seq (.seq (.ops [⟨(some 14),(.mv (.t 7)),none⟩,
      ⟨(some 15),(.bin .lss (.t 14) (.k (I 0))),none⟩,
      ⟨(some 16),(.mv (.t 15)),none⟩,
      ⟨(some 17),(.mv (.t 7)),(some (16,false))⟩,
      ⟨(some 18),(.mv (.t 1)),(some (16,false))⟩,
      ⟨(some 19),(.bin .geq (.t 17) (.t 18)),(some (16,false))⟩,
      ⟨(some 20),(.pick (.t 16) (.k (B true)) (.t 19)),none⟩])
    (.cond (.t 20)
      (.seq (.ops [⟨(some 4),(.mv (.k (B false))),none⟩])
      .ret)
      .skip))
    (.ops [⟨(some 21),(.mv (.t 5)),none⟩,
      ⟨(some 22),(.mv (.t 7)),none⟩,
      ⟨(some 23),(.bin .shl (.k (I 1)) (.t 22)),none⟩,
      ⟨(some 24),(.bin .or (.t 21) (.t 23)),none⟩,
      ⟨(some 5),(.mv (.t 24)),none⟩]))))
    (.ops [⟨(some 25),(.bin .add (.t 10) (.k (I 1))),none⟩,
      ⟨(some 10),(.mv (.t 25)),none⟩])))) ks fr H ms := rfl
def c59 : ICode :=
  (.seq (.ops [⟨(some 4),(.mv (.k (B false))),none⟩])
  (.seq (.ops [⟨(some 5),(.mv (.k (I 0))),none⟩])
  (.seq (.seq (.ops [⟨(some 8),(.mv (.t 0)),none⟩,
    ⟨(some 9),(.len (.t 8)),none⟩,
    ⟨(some 10),(.mv (.k (I 0))),none⟩])
  (.block 0 (.loop c59L0)))
  c59T1)))
theorem w59 {x : Cx} {Q : QT} {ks : List Kont} {fr : Fr} {H : AHeap} {ms : List Nat} : W x Q c59 ks fr H ms = W x Q (.seq (.ops [⟨(some 4),(.mv (.k (B false))),none⟩])
    (.seq (.ops [⟨(some 5),(.mv (.k (I 0))),none⟩])
    (.seq (.seq (.ops [⟨(some 8),(.mv (.t 0)),none⟩,
      ⟨(some 9),(.len (.t 8)),none⟩,
      ⟨(some 10),(.mv (.k (I 0))),none⟩])
    (.block 0 (.loop c59L0)))
    c59T1))) ks fr H ms := rfl
def r59 : List IRes := [(.tmp 4)]
theorem t59 : Try.f59.body.bind (trCode Try.prog Try.f59.ntmps) = some (strip c59) := by kernel_rfl
theorem q59 : trRes Try.prog Try.f59.results.toList = some r59 := by kernel_rfl
theorem fn59 : Try.prog.funcs[59]? = some Try.f59 := by kernel_rfl
theorem nn59 : (Try.f59.name == "runtime.NumGoroutine") = false := by kernel_rfl
theorem nt59 : Try.f59.ntmps = 37 := by kernel_rfl
def c55 : ICode :=
  (.seq (.ops [⟨(some 1),(.box (.t 0)),none⟩,
    ⟨(some 2),(.mv (.k (B false))),none⟩])
  (.seq (.ops [⟨(some 3),(.load false 1 (.t 1)),none⟩,
    ⟨(some 4),(.len (.t 3)),none⟩,
    ⟨(some 5),(.bin .geq (.t 4) (.k (I 1))),none⟩,
    ⟨(some 6),(.mv (.t 5)),none⟩,
    ⟨(some 7),(.load false 1 (.t 1)),(some (6,true))⟩,
    ⟨(some 8),(.len (.t 7)),(some (6,true))⟩,
    ⟨(some 9),(.bin .leq (.t 8) (.k (I 6))),(some (6,true))⟩,
    ⟨(some 10),(.pick (.t 6) (.t 9) (.k (B false))),none⟩,
    ⟨(some 11),(.mv (.t 10)),none⟩,
    ⟨(some 12),(.load false 1 (.t 1)),(some (11,true))⟩,
    ⟨(some 13),(.mkfn (.func 80) [] [(.t 1)]),(some (11,true))⟩,
    ⟨(some 14),(.call (.k (.fn (.func 79) [] [])) [(.t 12),(.t 13)]),(some (11,true))⟩,
    ⟨(some 15),(.un .not (.t 14)),(some (11,true))⟩,
    ⟨(some 16),(.pick (.t 11) (.t 15) (.k (B false))),none⟩,
    ⟨(some 2),(.mv (.t 16)),none⟩])
  .ret))
theorem w55 {x : Cx} {Q : QT} {ks : List Kont} {fr : Fr} {H : AHeap} {ms : List Nat} : W x Q c55 ks fr H ms = W x Q (.seq (.ops [⟨(some 1),(.box (.t 0)),none⟩,
      ⟨(some 2),(.mv (.k (B false))),none⟩])
    (.seq (.ops [⟨(some 3),(.load false 1 (.t 1)),none⟩,
      ⟨(some 4),(.len (.t 3)),none⟩,
      ⟨(some 5),(.bin .geq (.t 4) (.k (I 1))),none⟩,
      ⟨(some 6),(.mv (.t 5)),none⟩,
      ⟨(some 7),(.load false 1 (.t 1)),(some (6,true))⟩,
      ⟨(some 8),(.len (.t 7)),(some (6,true))⟩,
      ⟨(some 9),(.bin .leq (.t 8) (.k (I 6))),(some (6,true))⟩,
      ⟨(some 10),(.pick (.t 6) (.t 9) (.k (B false))),none⟩,
      ⟨(some 11),(.mv (.t 10)),none⟩,
      ⟨(some 12),(.load false 1 (.t 1)),(some (11,true))⟩,
      ⟨(some 13),(.mkfn (.func 80) [] [(.t 1)]),(some (11,true))⟩,
      ⟨(some 14),(.call (.k (.fn (.func 79) [] [])) [(.t 12),(.t 13)]),(some (11,true))⟩,
      ⟨(some 15),(.un .not (.t 14)),(some (11,true))⟩,
      ⟨(some 16),(.pick (.t 11) (.t 15) (.k (B false))),none⟩,
      ⟨(some 2),(.mv (.t 16)),none⟩])
    .ret)) ks fr H ms := rfl
def r55 : List IRes := [(.tmp 2)]
theorem t55 : Try.f55.body.bind (trCode Try.prog Try.f55.ntmps) = some (strip c55) := by kernel_rfl
theorem q55 : trRes Try.prog Try.f55.results.toList = some r55 := by kernel_rfl
theorem fn55 : Try.prog.funcs[55]? = some Try.f55 := by kernel_rfl
theorem nn55 : (Try.f55.name == "runtime.NumGoroutine") = false := by kernel_rfl
theorem nt55 : Try.f55.ntmps = 17 := by kernel_rfl
def c79 : ICode :=
  (.seq (.ops [⟨(some 4),(.mv (.k (B false))),none⟩])
  (.seq (.ops [⟨(some 5),(.mv (.t 0)),none⟩,
    ⟨(some 6),(.mv (.t 1)),none⟩,
    ⟨(some 7),(.call (.k (.fn (.func 89) [] [])) [(.t 5),(.t 6)]),none⟩,
    ⟨(some 8),(.bin .geq (.t 7) (.k (I 0))),none⟩,
    ⟨(some 4),(.mv (.t 8)),none⟩])
  .ret))
theorem w79 {x : Cx} {Q : QT} {ks : List Kont} {fr : Fr} {H : AHeap} {ms : List Nat} : W x Q c79 ks fr H ms = W x Q (.seq (.ops [⟨(some 4),(.mv (.k (B false))),none⟩])
    (.seq (.ops [⟨(some 5),(.mv (.t 0)),none⟩,
      ⟨(some 6),(.mv (.t 1)),none⟩,
      ⟨(some 7),(.call (.k (.fn (.func 89) [] [])) [(.t 5),(.t 6)]),none⟩,
      ⟨(some 8),(.bin .geq (.t 7) (.k (I 0))),none⟩,
      ⟨(some 4),(.mv (.t 8)),none⟩])
    .ret)) ks fr H ms := rfl
def r79 : List IRes := [(.tmp 4)]
theorem t79 : Try.f79.body.bind (trCode Try.prog Try.f79.ntmps) = some (strip c79) := by kernel_rfl
theorem q79 : trRes Try.prog Try.f79.results.toList = some r79 := by kernel_rfl
theorem fn79 : Try.prog.funcs[79]? = some Try.f79 := by kernel_rfl
theorem nn79 : (Try.f79.name == "runtime.NumGoroutine") = false := by kernel_rfl
theorem nt79 : Try.f79.ntmps = 9 := by kernel_rfl
def c80 : ICode :=
  (.seq (.ops [⟨(some 3),(.mv (.k (B false))),none⟩])
  (.seq (.ops [⟨(some 4),(.mv (.t 0)),none⟩,
    ⟨(some 5),(.load false 1 (.t 1)),none⟩,
    ⟨(some 6),(.len (.t 5)),none⟩,
    ⟨(some 7),(.call (.k (.fn (.func 59) [] [])) [(.t 4),(.t 6)]),none⟩,
    ⟨(some 8),(.un .not (.t 7)),none⟩,
    ⟨(some 3),(.mv (.t 8)),none⟩])
  .ret))
theorem w80 {x : Cx} {Q : QT} {ks : List Kont} {fr : Fr} {H : AHeap} {ms : List Nat} : W x Q c80 ks fr H ms = W x Q (.seq (.ops [⟨(some 3),(.mv (.k (B false))),none⟩])
    (.seq (.ops [⟨(some 4),(.mv (.t 0)),none⟩,
      ⟨(some 5),(.load false 1 (.t 1)),none⟩,
      ⟨(some 6),(.len (.t 5)),none⟩,
      ⟨(some 7),(.call (.k (.fn (.func 59) [] [])) [(.t 4),(.t 6)]),none⟩,
      ⟨(some 8),(.un .not (.t 7)),none⟩,
      ⟨(some 3),(.mv (.t 8)),none⟩])
    .ret)) ks fr H ms := rfl
def r80 : List IRes := [(.tmp 3)]
theorem t80 : Try.f80.body.bind (trCode Try.prog Try.f80.ntmps) = some (strip c80) := by kernel_rfl
theorem q80 : trRes Try.prog Try.f80.results.toList = some r80 := by kernel_rfl
theorem fn80 : Try.prog.funcs[80]? = some Try.f80 := by kernel_rfl
theorem nn80 : (Try.f80.name == "runtime.NumGoroutine") = false := by kernel_rfl
theorem nt80 : Try.f80.ntmps = 9 := by kernel_rfl
def c81 : ICode :=
  (.seq (.ops [⟨(some 5),(.box (.t 2)),none⟩,
    ⟨(some 6),(.mv (.k (I 0))),none⟩])
  (.seq (.ops [⟨(some 8),(.mv (.t 0)),none⟩,
    ⟨(some 9),(.mv (.t 1)),none⟩,
    ⟨(some 10),(.ixS 1 (.t 8) (.t 9)),none⟩,
    ⟨(some 11),(.load false 1 (.t 10)),none⟩,
    ⟨(some 12),(.mkfn (.func 91) [] [(.t 5)]),none⟩,
    ⟨(some 13),(.call (.k (.fn (.func 90) [] [])) [(.t 11),(.t 12)]),none⟩,
    ⟨(some 7),(.mv (.t 13)),none⟩])
  (.seq (.ops [⟨(some 14),(.mv (.t 0)),none⟩,
    ⟨(some 15),(.mv (.t 1)),none⟩,
    ⟨(some 16),(.ixS 1 (.t 14) (.t 15)),none⟩,
    ⟨(some 17),(.load false 1 (.t 16)),none⟩,
    ⟨(some 18),(.mv (.t 7)),none⟩,
    ⟨(some 19),(.ixS 1 (.t 17) (.t 18)),none⟩,
    ⟨(some 20),(.load false 1 (.t 19)),none⟩,
    ⟨(some 6),(.mv (.t 20)),none⟩])
  .ret)))
theorem w81 {x : Cx} {Q : QT} {ks : List Kont} {fr : Fr} {H : AHeap} {ms : List Nat} : W x Q c81 ks fr H ms = W x Q (.seq (.ops [⟨(some 5),(.box (.t 2)),none⟩,
      ⟨(some 6),(.mv (.k (I 0))),none⟩])
    (.seq (.ops [⟨(some 8),(.mv (.t 0)),none⟩,
      ⟨(some 9),(.mv (.t 1)),none⟩,
      ⟨(some 10),(.ixS 1 (.t 8) (.t 9)),none⟩,
      ⟨(some 11),(.load false 1 (.t 10)),none⟩,
      ⟨(some 12),(.mkfn (.func 91) [] [(.t 5)]),none⟩,
      ⟨(some 13),(.call (.k (.fn (.func 90) [] [])) [(.t 11),(.t 12)]),none⟩,
      ⟨(some 7),(.mv (.t 13)),none⟩])
    (.seq (.ops [⟨(some 14),(.mv (.t 0)),none⟩,
      ⟨(some 15),(.mv (.t 1)),none⟩,
      ⟨(some 16),(.ixS 1 (.t 14) (.t 15)),none⟩,
      ⟨(some 17),(.load false 1 (.t 16)),none⟩,
      ⟨(some 18),(.mv (.t 7)),none⟩,
      ⟨(some 19),(.ixS 1 (.t 17) (.t 18)),none⟩,
      ⟨(some 20),(.load false 1 (.t 19)),none⟩,
      ⟨(some 6),(.mv (.t 20)),none⟩])
    .ret))) ks fr H ms := rfl
def r81 : List IRes := [(.tmp 6)]
theorem t81 : Try.f81.body.bind (trCode Try.prog Try.f81.ntmps) = some (strip c81) := by kernel_rfl
theorem q81 : trRes Try.prog Try.f81.results.toList = some r81 := by kernel_rfl
theorem fn81 : Try.prog.funcs[81]? = some Try.f81 := by kernel_rfl
theorem nn81 : (Try.f81.name == "runtime.NumGoroutine") = false := by kernel_rfl
theorem nt81 : Try.f81.ntmps = 21 := by kernel_rfl
def c89T1 : ICode :=
  (.keep [] (.seq (.ops [⟨(some 4),(.mv (.k (I (-1)))),none⟩])
  .ret))
theorem w89T1 {x : Cx} {Q : QT} {ks : List Kont} {fr : Fr} {H : AHeap} {ms : List Nat} : W x Q c89T1 ks fr H ms = W x Q (.keep [] (.seq (.ops [⟨(some 4),(.mv (.k (I (-1)))),none⟩])
    .ret)) ks fr H ms := rfl
/- live: [0,1,7,8] -/
def c89L0 : ICode :=
  (.seq (.ops [⟨(some 9),(.bin .lss (.t 8) (.t 7)),none⟩])
  (.seq (.cond (.t 9)
    .skip
    (.exit 0))
  (.seq (.block 1 (.seq (.ops [⟨(some 10),(.mv (.t 8)),none⟩,
    ⟨(some 5),(.mv (.t 10)),none⟩])
  (.seq (.ops [⟨(some 11),(.mv (.t 1)),none⟩,
    ⟨(some 12),(.mv (.t 0)),none⟩,
    ⟨(some 13),(.mv (.t 5)),none⟩,
    ⟨(some 14),(.ixS 1 (.t 12) (.t 13)),none⟩,
    ⟨(some 15),(.load false 1 (.t 14)),none⟩,
    ⟨(some 16),(.call (.t 11) [(.t 15)]),none⟩])
  (.cond (.t 16)
    (.seq (.ops [⟨(some 17),(.mv (.t 5)),none⟩,
      ⟨(some 4),(.mv (.t 17)),none⟩])
    .ret)
    .skip))))
  (.ops [⟨(some 18),(.bin .add (.t 8) (.k (I 1))),none⟩,
    ⟨(some 8),(.mv (.t 18)),none⟩]))))
theorem w89L0 {x : Cx} {Q : QT} {ks : List Kont} {fr : Fr} {H : AHeap} {ms : List Nat} : W x Q c89L0 ks fr H ms = W x Q (.seq (.ops [⟨(some 9),(.bin .lss (.t 8) (.t 7)),none⟩])
    (.seq (.cond (.t 9)
      .skip
      (.exit 0))
    (.seq (.block 1 (.seq (.ops [⟨(some 10),(.mv (.t 8)),none⟩,
      ⟨(some 5),(.mv (.t 10)),none⟩])
    (.seq (.ops [⟨(some 11),(.mv (.t 1)),none⟩,
      ⟨(some 12),(.mv (.t 0)),none⟩,
      ⟨(some 13),(.mv (.t 5)),none⟩,
      ⟨(some 14),(.ixS 1 (.t 12) (.t 13)),none⟩,
      ⟨(some 15),(.load false 1 (.t 14)),none⟩,
      ⟨(some 16),(.call (.t 11) [(.t 15)]),none⟩])
    (.cond (.t 16)
      (.seq (.ops [⟨(some 17),(.mv (.t 5)),none⟩,
        ⟨(some 4),(.mv (.t 17)),none⟩])
      .ret)
      .skip))))
    (.ops [⟨(some 18),(.bin .add (.t 8) (.k (I 1))),none⟩,
      ⟨(some 8),(.mv (.t 18)),none⟩])))) ks fr H ms := rfl
def c89 : ICode :=
  (.seq (.ops [⟨(some 4),(.mv (.k (I 0))),none⟩])
  (.seq (.seq (.ops [⟨(some 6),(.mv (.t 0)),none⟩,
    ⟨(some 7),(.len (.t 6)),none⟩,
    ⟨(some 8),(.mv (.k (I 0))),none⟩])
  (.block 0 (.loop c89L0)))
  c89T1))
theorem w89 {x : Cx} {Q : QT} {ks : List Kont} {fr : Fr} {H : AHeap} {ms : List Nat} : W x Q c89 ks fr H ms = W x Q (.seq (.ops [⟨(some 4),(.mv (.k (I 0))),none⟩])
    (.seq (.seq (.ops [⟨(some 6),(.mv (.t 0)),none⟩,
      ⟨(some 7),(.len (.t 6)),none⟩,
      ⟨(some 8),(.mv (.k (I 0))),none⟩])
    (.block 0 (.loop c89L0)))
    c89T1)) ks fr H ms := rfl
def r89 : List IRes := [(.tmp 4)]
theorem t89 : Try.f89.body.bind (trCode Try.prog Try.f89.ntmps) = some (strip c89) := by kernel_rfl
theorem q89 : trRes Try.prog Try.f89.results.toList = some r89 := by kernel_rfl
theorem fn89 : Try.prog.funcs[89]? = some Try.f89 := by kernel_rfl
theorem nn89 : (Try.f89.name == "runtime.NumGoroutine") = false := by kernel_rfl
theorem nt89 : Try.f89.ntmps = 19 := by kernel_rfl
def c90T1 : ICode :=
  (.keep [] (.seq (.ops [⟨(some 4),(.mv (.k (I (-1)))),none⟩])
  .ret))
theorem w90T1 {x : Cx} {Q : QT} {ks : List Kont} {fr : Fr} {H : AHeap} {ms : List Nat} : W x Q c90T1 ks fr H ms = W x Q (.keep [] (.seq (.ops [⟨(some 4),(.mv (.k (I (-1)))),none⟩])
    .ret)) ks fr H ms := rfl
/- live: [0,1,7,8] -/
def c90L0 : ICode :=
  (.seq (.ops [⟨(some 9),(.bin .lss (.t 8) (.t 7)),none⟩])
  (.seq (.cond (.t 9)
    .skip
    (.exit 0))
  (.seq (.block 1 (.seq (.ops [⟨(some 10),(.mv (.t 8)),none⟩,
    ⟨(some 5),(.mv (.t 10)),none⟩])
  (.seq (.ops [⟨(some 11),(.mv (.t 1)),none⟩,
    ⟨(some 12),(.mv (.t 0)),none⟩,
    ⟨(some 13),(.mv (.t 5)),none⟩,
    ⟨(some 14),(.ixS 1 (.t 12) (.t 13)),none⟩,
    ⟨(some 15),(.load false 1 (.t 14)),none⟩,
    ⟨(some 16),(.call (.t 11) [(.t 15)]),none⟩])
  (.cond (.t 16)
    (.seq (.ops [⟨(some 17),(.mv (.t 5)),none⟩,
      ⟨(some 4),(.mv (.t 17)),none⟩])
    .ret)
    .skip))))
  (.ops [⟨(some 18),(.bin .add (.t 8) (.k (I 1))),none⟩,
    ⟨(some 8),(.mv (.t 18)),none⟩]))))
theorem w90L0 {x : Cx} {Q : QT} {ks : List Kont} {fr : Fr} {H : AHeap} {ms : List Nat} : W x Q c90L0 ks fr H ms = W x Q (.seq (.ops [⟨(some 9),(.bin .lss (.t 8) (.t 7)),none⟩])
    (.seq (.cond (.t 9)
      .skip
      (.exit 0))
    (.seq (.block 1 (.seq (.ops [⟨(some 10),(.mv (.t 8)),none⟩,
      ⟨(some 5),(.mv (.t 10)),none⟩])
    (.seq (.ops [⟨(some 11),(.mv (.t 1)),none⟩,
      ⟨(some 12),(.mv (.t 0)),none⟩,
      ⟨(some 13),(.mv (.t 5)),none⟩,
      ⟨(some 14),(.ixS 1 (.t 12) (.t 13)),none⟩,
      ⟨(some 15),(.load false 1 (.t 14)),none⟩,
      ⟨(some 16),(.call (.t 11) [(.t 15)]),none⟩])
    (.cond (.t 16)
      (.seq (.ops [⟨(some 17),(.mv (.t 5)),none⟩,
        ⟨(some 4),(.mv (.t 17)),none⟩])
      .ret)
      .skip))))
    (.ops [⟨(some 18),(.bin .add (.t 8) (.k (I 1))),none⟩,
      ⟨(some 8),(.mv (.t 18)),none⟩])))) ks fr H ms := rfl
def c90 : ICode :=
  (.seq (.ops [⟨(some 4),(.mv (.k (I 0))),none⟩])
  (.seq (.seq (.ops [⟨(some 6),(.mv (.t 0)),none⟩,
    ⟨(some 7),(.len (.t 6)),none⟩,
    ⟨(some 8),(.mv (.k (I 0))),none⟩])
  (.block 0 (.loop c90L0)))
  c90T1))
theorem w90 {x : Cx} {Q : QT} {ks : List Kont} {fr : Fr} {H : AHeap} {ms : List Nat} : W x Q c90 ks fr H ms = W x Q (.seq (.ops [⟨(some 4),(.mv (.k (I 0))),none⟩])
    (.seq (.seq (.ops [⟨(some 6),(.mv (.t 0)),none⟩,
      ⟨(some 7),(.len (.t 6)),none⟩,
      ⟨(some 8),(.mv (.k (I 0))),none⟩])
    (.block 0 (.loop c90L0)))
    c90T1)) ks fr H ms := rfl
def r90 : List IRes := [(.tmp 4)]
theorem t90 : Try.f90.body.bind (trCode Try.prog Try.f90.ntmps) = some (strip c90) := by kernel_rfl
theorem q90 : trRes Try.prog Try.f90.results.toList = some r90 := by kernel_rfl
theorem fn90 : Try.prog.funcs[90]? = some Try.f90 := by kernel_rfl
theorem nn90 : (Try.f90.name == "runtime.NumGoroutine") = false := by kernel_rfl
theorem nt90 : Try.f90.ntmps = 19 := by kernel_rfl
def c91 : ICode :=
  (.seq (.ops [⟨(some 3),(.mv (.k (B false))),none⟩])
  (.seq (.ops [⟨(some 4),(.load false 1 (.t 1)),none⟩,
    ⟨(some 5),(.mv (.t 0)),none⟩,
    ⟨(some 6),(.bin .shr (.t 4) (.t 5)),none⟩,
    ⟨(some 7),(.bin .and (.t 6) (.k (I 1))),none⟩,
    ⟨(some 8),(.bin .eql (.t 7) (.k (I 1))),none⟩,
    ⟨(some 3),(.mv (.t 8)),none⟩])
  .ret))
theorem w91 {x : Cx} {Q : QT} {ks : List Kont} {fr : Fr} {H : AHeap} {ms : List Nat} : W x Q c91 ks fr H ms = W x Q (.seq (.ops [⟨(some 3),(.mv (.k (B false))),none⟩])
    (.seq (.ops [⟨(some 4),(.load false 1 (.t 1)),none⟩,
      ⟨(some 5),(.mv (.t 0)),none⟩,
      ⟨(some 6),(.bin .shr (.t 4) (.t 5)),none⟩,
      ⟨(some 7),(.bin .and (.t 6) (.k (I 1))),none⟩,
      ⟨(some 8),(.bin .eql (.t 7) (.k (I 1))),none⟩,
      ⟨(some 3),(.mv (.t 8)),none⟩])
    .ret)) ks fr H ms := rfl
def r91 : List IRes := [(.tmp 3)]
theorem t91 : Try.f91.body.bind (trCode Try.prog Try.f91.ntmps) = some (strip c91) := by kernel_rfl
theorem q91 : trRes Try.prog Try.f91.results.toList = some r91 := by kernel_rfl
theorem fn91 : Try.prog.funcs[91]? = some Try.f91 := by kernel_rfl
theorem nn91 : (Try.f91.name == "runtime.NumGoroutine") = false := by kernel_rfl
theorem nt91 : Try.f91.ntmps = 9 := by kernel_rfl
def c15 : ICode :=
  (.seq (.ops [⟨(some 2),(.mv (.k nilSl)),none⟩,
    ⟨(some 3),(.mv (.k (I 0))),none⟩])
  (.seq (.seq (.ops [⟨(some 6),(.mv (.t 0)),none⟩,
    ⟨(some 7),(.call (.k (.fn (.func 55) [] [])) [(.t 6)]),none⟩,
    ⟨(some 8),(.un .not (.t 7)),none⟩])
  (.cond (.t 8)
    (.seq (.ops [⟨(some 2),(.mv (.k nilSl)),none⟩,
      ⟨(some 3),(.mv (.k (I 2))),none⟩])
    .ret)
    .skip))
  (.seq (.ops [⟨(some 10),(.mv (.t 0)),none⟩,
    ⟨(some 11),(.call (.k (.fn (.func 56) [] [])) [(.t 10)]),none⟩,
    ⟨(some 9),(.mv (.t 11)),none⟩,
    ⟨(some 12),(.ext (.t 9) 0),none⟩,
    ⟨(some 13),(.ext (.t 9) 1),none⟩,
    ⟨(some 4),(.mv (.t 12)),none⟩,
    ⟨(some 5),(.mv (.t 13)),none⟩])
  (.seq (.ops [⟨(some 14),(.mv (.t 4)),none⟩,
    ⟨(some 2),(.mv (.t 14)),none⟩,
    ⟨(some 3),(.mv (.k (I 0))),none⟩])
  .ret))))
theorem w15 {x : Cx} {Q : QT} {ks : List Kont} {fr : Fr} {H : AHeap} {ms : List Nat} : W x Q c15 ks fr H ms = W x Q (.seq (.ops [⟨(some 2),(.mv (.k nilSl)),none⟩,
      ⟨(some 3),(.mv (.k (I 0))),none⟩])
    (.seq (.seq (.ops [⟨(some 6),(.mv (.t 0)),none⟩,
      ⟨(some 7),(.call (.k (.fn (.func 55) [] [])) [(.t 6)]),none⟩,
      ⟨(some 8),(.un .not (.t 7)),none⟩])
    (.cond (.t 8)
      (.seq (.ops [⟨(some 2),(.mv (.k nilSl)),none⟩,
        ⟨(some 3),(.mv (.k (I 2))),none⟩])
      .ret)
      .skip))
    (.seq (.ops [⟨(some 10),(.mv (.t 0)),none⟩,
      ⟨(some 11),(.call (.k (.fn (.func 56) [] [])) [(.t 10)]),none⟩,
      ⟨(some 9),(.mv (.t 11)),none⟩,
      ⟨(some 12),(.ext (.t 9) 0),none⟩,
      ⟨(some 13),(.ext (.t 9) 1),none⟩,
      ⟨(some 4),(.mv (.t 12)),none⟩,
      ⟨(some 5),(.mv (.t 13)),none⟩])
    (.seq (.ops [⟨(some 14),(.mv (.t 4)),none⟩,
      ⟨(some 2),(.mv (.t 14)),none⟩,
      ⟨(some 3),(.mv (.k (I 0))),none⟩])
    .ret)))) ks fr H ms := rfl
def r15 : List IRes := [(.tmp 2),(.tmp 3)]
theorem t15 : Try.f15.body.bind (trCode Try.prog Try.f15.ntmps) = some (strip c15) := by kernel_rfl
theorem q15 : trRes Try.prog Try.f15.results.toList = some r15 := by kernel_rfl
theorem fn15 : Try.prog.funcs[15]? = some Try.f15 := by kernel_rfl
theorem nn15 : (Try.f15.name == "runtime.NumGoroutine") = false := by kernel_rfl
theorem nt15 : Try.f15.ntmps = 15 := by kernel_rfl
def c16T1 : ICode :=
  (.keep [3] (.seq (.ops [⟨(some 21),(.mv (.t 3)),none⟩,
    ⟨(some 2),(.mv (.t 21)),none⟩])
  .ret))
theorem w16T1 {x : Cx} {Q : QT} {ks : List Kont} {fr : Fr} {H : AHeap} {ms : List Nat} : W x Q c16T1 ks fr H ms = W x Q (.keep [3] (.seq (.ops [⟨(some 21),(.mv (.t 3)),none⟩,
      ⟨(some 2),(.mv (.t 21)),none⟩])
    .ret)) ks fr H ms := rfl
/- live: [3,6,7,8] -/
def c16L0 : ICode :=
  (.seq (.ops [⟨(some 9),(.bin .lss (.t 8) (.t 7)),none⟩])
  (.seq (.cond (.t 9)
    .skip
    (.exit 0))
  (.seq (.block 1 (.seq (.ops [⟨(some 10),(.mv (.t 8)),none⟩,
    ⟨(some 11),(.ixS 1 (.t 6) (.t 8)),none⟩,
    ⟨(some 12),(.load false 1 (.t 11)),none⟩,
    ⟨(some 4),(.mv (.t 10)),none⟩,
    ⟨(some 5),(.mv (.t 12)),none⟩])
  (.seq (.ops [⟨(some 13),(.mv (.t 4)),none⟩,
    ⟨(some 14),(.bin .lss (.t 13) (.k (I 9))),none⟩])
  (.cond (.t 14)
    (.ops [⟨(some 15),(.mv (.t 3)),none⟩,
      ⟨(some 16),(.mv (.t 5)),none⟩,
      ⟨(some 17),(.call (.k (.fn (.func 27) [] [])) [(.t 16)]),none⟩,
      ⟨(some 18),(.bslice 1 1 [nilSl] [(0,1,(.t 17))]),none⟩,
      ⟨(some 19),(.append 1 24 (.t 15) (.t 18)),none⟩,
      ⟨(some 3),(.mv (.t 19)),none⟩])
    .skip))))
  (.ops [⟨(some 20),(.bin .add (.t 8) (.k (I 1))),none⟩,
    ⟨(some 8),(.mv (.t 20)),none⟩]))))
theorem w16L0 {x : Cx} {Q : QT} {ks : List Kont} {fr : Fr} {H : AHeap} {ms : List Nat} : W x Q c16L0 ks fr H ms = W x Q (.seq (.ops [⟨(some 9),(.bin .lss (.t 8) (.t 7)),none⟩])
    (.seq (.cond (.t 9)
      .skip
      (.exit 0))
    (.seq (.block 1 (.seq (.ops [⟨(some 10),(.mv (.t 8)),none⟩,
      ⟨(some 11),(.ixS 1 (.t 6) (.t 8)),none⟩,
      ⟨(some 12),(.load false 1 (.t 11)),none⟩,
      ⟨(some 4),(.mv (.t 10)),none⟩,
      ⟨(some 5),(.mv (.t 12)),none⟩])
    (.seq (.ops [⟨(some 13),(.mv (.t 4)),none⟩,
      ⟨(some 14),(.bin .lss (.t 13) (.k (I 9))),none⟩])
    (.cond (.t 14)
      (.ops [⟨(some 15),(.mv (.t 3)),none⟩,
        ⟨(some 16),(.mv (.t 5)),none⟩,
        ⟨(some 17),(.call (.k (.fn (.func 27) [] [])) [(.t 16)]),none⟩,
        ⟨(some 18),(.bslice 1 1 [nilSl] [(0,1,(.t 17))]),none⟩,
        ⟨(some 19),(.append 1 24 (.t 15) (.t 18)),none⟩,
        ⟨(some 3),(.mv (.t 19)),none⟩])
      .skip))))
    (.ops [⟨(some 20),(.bin .add (.t 8) (.k (I 1))),none⟩,
      ⟨(some 8),(.mv (.t 20)),none⟩])))) ks fr H ms := rfl
def c16 : ICode :=
  (.seq (.ops [⟨(some 2),(.mv (.k nilSl)),none⟩])
  (.seq (.ops [⟨(some 3),(.mv (.k nilSl)),none⟩])
  (.seq (.seq (.ops [⟨(some 6),(.mv (.t 0)),none⟩,
    ⟨(some 7),(.len (.t 6)),none⟩,
    ⟨(some 8),(.mv (.k (I 0))),none⟩])
  (.block 0 (.loop c16L0)))
  c16T1)))
theorem w16 {x : Cx} {Q : QT} {ks : List Kont} {fr : Fr} {H : AHeap} {ms : List Nat} : W x Q c16 ks fr H ms = W x Q (.seq (.ops [⟨(some 2),(.mv (.k nilSl)),none⟩])
    (.seq (.ops [⟨(some 3),(.mv (.k nilSl)),none⟩])
    (.seq (.seq (.ops [⟨(some 6),(.mv (.t 0)),none⟩,
      ⟨(some 7),(.len (.t 6)),none⟩,
      ⟨(some 8),(.mv (.k (I 0))),none⟩])
    (.block 0 (.loop c16L0)))
    c16T1))) ks fr H ms := rfl
def r16 : List IRes := [(.tmp 2)]
theorem t16 : Try.f16.body.bind (trCode Try.prog Try.f16.ntmps) = some (strip c16) := by kernel_rfl
theorem q16 : trRes Try.prog Try.f16.results.toList = some r16 := by kernel_rfl
theorem fn16 : Try.prog.funcs[16]? = some Try.f16 := by kernel_rfl
theorem nn16 : (Try.f16.name == "runtime.NumGoroutine") = false := by kernel_rfl
theorem nt16 : Try.f16.ntmps = 22 := by kernel_rfl
def c17 : ICode :=
  (.seq (.ops [⟨(some 2),(.mv (.k nilSl)),none⟩,
    ⟨(some 3),(.mv (.k (I 0))),none⟩])
  (.seq (.seq (.ops [⟨(some 6),(.mv (.t 0)),none⟩,
    ⟨(some 7),(.call (.k (.fn (.func 55) [] [])) [(.t 6)]),none⟩,
    ⟨(some 8),(.un .not (.t 7)),none⟩])
  (.cond (.t 8)
    (.seq (.ops [⟨(some 2),(.mv (.k nilSl)),none⟩,
      ⟨(some 3),(.mv (.k (I 2))),none⟩])
    .ret)
    .skip))
  (.seq (.ops [⟨(some 10),(.mv (.t 0)),none⟩,
    ⟨(some 11),(.call (.k (.fn (.func 56) [] [])) [(.t 10)]),none⟩,
    ⟨(some 9),(.mv (.t 11)),none⟩,
    ⟨(some 12),(.ext (.t 9) 0),none⟩,
    ⟨(some 13),(.ext (.t 9) 1),none⟩,
    ⟨(some 4),(.mv (.t 12)),none⟩,
    ⟨(some 5),(.mv (.t 13)),none⟩])
  (.seq (.ops [⟨(some 14),(.mv (.t 5)),none⟩,
    ⟨(some 2),(.mv (.t 14)),none⟩,
    ⟨(some 3),(.mv (.k (I 0))),none⟩])
  .ret))))
theorem w17 {x : Cx} {Q : QT} {ks : List Kont} {fr : Fr} {H : AHeap} {ms : List Nat} : W x Q c17 ks fr H ms = W x Q (.seq (.ops [⟨(some 2),(.mv (.k nilSl)),none⟩,
      ⟨(some 3),(.mv (.k (I 0))),none⟩])
    (.seq (.seq (.ops [⟨(some 6),(.mv (.t 0)),none⟩,
      ⟨(some 7),(.call (.k (.fn (.func 55) [] [])) [(.t 6)]),none⟩,
      ⟨(some 8),(.un .not (.t 7)),none⟩])
    (.cond (.t 8)
      (.seq (.ops [⟨(some 2),(.mv (.k nilSl)),none⟩,
        ⟨(some 3),(.mv (.k (I 2))),none⟩])
      .ret)
      .skip))
    (.seq (.ops [⟨(some 10),(.mv (.t 0)),none⟩,
      ⟨(some 11),(.call (.k (.fn (.func 56) [] [])) [(.t 10)]),none⟩,
      ⟨(some 9),(.mv (.t 11)),none⟩,
      ⟨(some 12),(.ext (.t 9) 0),none⟩,
      ⟨(some 13),(.ext (.t 9) 1),none⟩,
      ⟨(some 4),(.mv (.t 12)),none⟩,
      ⟨(some 5),(.mv (.t 13)),none⟩])
    (.seq (.ops [⟨(some 14),(.mv (.t 5)),none⟩,
      ⟨(some 2),(.mv (.t 14)),none⟩,
      ⟨(some 3),(.mv (.k (I 0))),none⟩])
    .ret)))) ks fr H ms := rfl
def r17 : List IRes := [(.tmp 2),(.tmp 3)]
theorem t17 : Try.f17.body.bind (trCode Try.prog Try.f17.ntmps) = some (strip c17) := by kernel_rfl
theorem q17 : trRes Try.prog Try.f17.results.toList = some r17 := by kernel_rfl
theorem fn17 : Try.prog.funcs[17]? = some Try.f17 := by kernel_rfl
theorem nn17 : (Try.f17.name == "runtime.NumGoroutine") = false := by kernel_rfl
theorem nt17 : Try.f17.ntmps = 15 := by kernel_rfl
def c18T1 : ICode :=
  (.keep [0] (.seq (.ops [⟨(some 17),(.mv (.t 0)),none⟩,
    ⟨(some 18),(.len (.t 17)),none⟩,
    ⟨(some 19),(.bin .geq (.t 18) (.k (I 1))),none⟩,
    ⟨(some 20),(.mv (.t 19)),none⟩,
    ⟨(some 21),(.mv (.t 0)),(some (20,true))⟩,
    ⟨(some 22),(.len (.t 21)),(some (20,true))⟩,
    ⟨(some 23),(.bin .leq (.t 22) (.k (I 6))),(some (20,true))⟩,
    ⟨(some 24),(.pick (.t 20) (.t 23) (.k (B false))),none⟩,
    ⟨(some 2),(.mv (.t 24)),none⟩])
  .ret))
theorem w18T1 {x : Cx} {Q : QT} {ks : List Kont} {fr : Fr} {H : AHeap} {ms : List Nat} : W x Q c18T1 ks fr H ms = W x Q (.keep [0] (.seq (.ops [⟨(some 17),(.mv (.t 0)),none⟩,
      ⟨(some 18),(.len (.t 17)),none⟩,
      ⟨(some 19),(.bin .geq (.t 18) (.k (I 1))),none⟩,
      ⟨(some 20),(.mv (.t 19)),none⟩,
      ⟨(some 21),(.mv (.t 0)),(some (20,true))⟩,
      ⟨(some 22),(.len (.t 21)),(some (20,true))⟩,
      ⟨(some 23),(.bin .leq (.t 22) (.k (I 6))),(some (20,true))⟩,
      ⟨(some 24),(.pick (.t 20) (.t 23) (.k (B false))),none⟩,
      ⟨(some 2),(.mv (.t 24)),none⟩])
    .ret)) ks fr H ms := rfl
/- live: [0,5,6,7] -/
def c18L0 : ICode :=
  (.seq (.ops [⟨(some 8),(.bin .lss (.t 7) (.t 6)),none⟩])
  (.seq (.cond (.t 8)
    .skip
    (.exit 0))
  (.seq (.block 1 (.seq (.ops [⟨(some 9),(.ixS 1 (.t 5) (.t 7)),none⟩,
    ⟨(some 10),(.load false 1 (.t 9)),none⟩,
    ⟨(some 4),(.mv (.t 10)),none⟩])
  (.seq (.ops [⟨(some 11),(.mv (.t 4)),none⟩,
    ⟨(some 12),(.mv (.t 0)),none⟩,
    ⟨(some 13),(.len (.t 12)),none⟩,
    ⟨(some 14),(.call (.k (.fn (.func 23) [] [])) [(.t 11),(.t 13)]),none⟩,
    ⟨(some 15),(.un .not (.t 14)),none⟩])
  (.cond (.t 15)
    (.seq (.ops [⟨(some 2),(.mv (.k (B false))),none⟩])
    .ret)
    .skip))))
  (.ops [⟨(some 16),(.bin .add (.t 7) (.k (I 1))),none⟩,
    ⟨(some 7),(.mv (.t 16)),none⟩]))))
theorem w18L0 {x : Cx} {Q : QT} {ks : List Kont} {fr : Fr} {H : AHeap} {ms : List Nat} : W x Q c18L0 ks fr H ms = W x Q (.seq (.ops [⟨(some 8),(.bin .lss (.t 7) (.t 6)),none⟩])
    (.seq (.cond (.t 8)
      .skip
      (.exit 0))
    (.seq (.block 1 (.seq (.ops [⟨(some 9),(.ixS 1 (.t 5) (.t 7)),none⟩,
      ⟨(some 10),(.load false 1 (.t 9)),none⟩,
      ⟨(some 4),(.mv (.t 10)),none⟩])
    (.seq (.ops [⟨(some 11),(.mv (.t 4)),none⟩,
      ⟨(some 12),(.mv (.t 0)),none⟩,
      ⟨(some 13),(.len (.t 12)),none⟩,
      ⟨(some 14),(.call (.k (.fn (.func 23) [] [])) [(.t 11),(.t 13)]),none⟩,
      ⟨(some 15),(.un .not (.t 14)),none⟩])
    (.cond (.t 15)
      (.seq (.ops [⟨(some 2),(.mv (.k (B false))),none⟩])
      .ret)
      .skip))))
    (.ops [⟨(some 16),(.bin .add (.t 7) (.k (I 1))),none⟩,
      ⟨(some 7),(.mv (.t 16)),none⟩])))) ks fr H ms := rfl
def c18 : ICode :=
  (.seq (.ops [⟨(some 2),(.mv (.k (B false))),none⟩])
  (.seq (.seq (.ops [⟨(some 5),(.mv (.t 0)),none⟩,
    ⟨(some 6),(.len (.t 5)),none⟩,
    ⟨(some 7),(.mv (.k (I 0))),none⟩])
  (.block 0 (.loop c18L0)))
  c18T1))
theorem w18 {x : Cx} {Q : QT} {ks : List Kont} {fr : Fr} {H : AHeap} {ms : List Nat} : W x Q c18 ks fr H ms = W x Q (.seq (.ops [⟨(some 2),(.mv (.k (B false))),none⟩])
    (.seq (.seq (.ops [⟨(some 5),(.mv (.t 0)),none⟩,
      ⟨(some 6),(.len (.t 5)),none⟩,
      ⟨(some 7),(.mv (.k (I 0))),none⟩])
    (.block 0 (.loop c18L0)))
    c18T1)) ks fr H ms := rfl
def r18 : List IRes := [(.tmp 2)]
theorem t18 : Try.f18.body.bind (trCode Try.prog Try.f18.ntmps) = some (strip c18) := by kernel_rfl
theorem q18 : trRes Try.prog Try.f18.results.toList = some r18 := by kernel_rfl
theorem fn18 : Try.prog.funcs[18]? = some Try.f18 := by kernel_rfl
theorem nn18 : (Try.f18.name == "runtime.NumGoroutine") = false := by kernel_rfl
theorem nt18 : Try.f18.ntmps = 25 := by kernel_rfl
def c19 : ICode :=
  (.seq (.ops [⟨(some 0),(.mv (.k (B false))),none⟩])
  (.seq (.ops [⟨(some 4),(.bslice 1 2 [(I 0)] [(0,1,(.k (I 1))),(1,1,(.k (I 0)))]),none⟩,
    ⟨(some 5),(.bslice 1 2 [(I 0)] [(0,1,(.k (I 0))),(1,1,(.k (I 1)))]),none⟩,
    ⟨(some 6),(.bslice 1 2 [nilSl] [(0,1,(.t 4)),(1,1,(.t 5))]),none⟩,
    ⟨(some 7),(.call (.k (.fn (.func 15) [] [])) [(.t 6)]),none⟩,
    ⟨(some 3),(.mv (.t 7)),none⟩,
    ⟨(some 8),(.ext (.t 3) 0),none⟩,
    ⟨(some 9),(.ext (.t 3) 1),none⟩,
    ⟨(some 1),(.mv (.t 8)),none⟩,
    ⟨(some 2),(.mv (.t 9)),none⟩])
  (.seq (.ops [⟨(some 10),(.mv (.t 2)),none⟩,
    ⟨(some 11),(.bin .eql (.t 10) (.k (I 0))),none⟩,
    ⟨(some 12),(.mv (.t 11)),none⟩,
    ⟨(some 13),(.mv (.t 1)),(some (12,true))⟩,
    ⟨(some 14),(.bslice 1 2 [(I 0)] [(0,1,(.k (I 1))),(1,1,(.k (I 0)))]),(some (12,true))⟩,
    ⟨(some 15),(.call (.k (.fn (.func 20) [] [])) [(.t 13),(.t 14)]),(some (12,true))⟩,
    ⟨(some 16),(.pick (.t 12) (.t 15) (.k (B false))),none⟩,
    ⟨(some 0),(.mv (.t 16)),none⟩])
  .ret)))
theorem w19 {x : Cx} {Q : QT} {ks : List Kont} {fr : Fr} {H : AHeap} {ms : List Nat} : W x Q c19 ks fr H ms = W x Q (.seq (.ops [⟨(some 0),(.mv (.k (B false))),none⟩])
    (.seq (.ops [⟨(some 4),(.bslice 1 2 [(I 0)] [(0,1,(.k (I 1))),(1,1,(.k (I 0)))]),none⟩,
      ⟨(some 5),(.bslice 1 2 [(I 0)] [(0,1,(.k (I 0))),(1,1,(.k (I 1)))]),none⟩,
      ⟨(some 6),(.bslice 1 2 [nilSl] [(0,1,(.t 4)),(1,1,(.t 5))]),none⟩,
      ⟨(some 7),(.call (.k (.fn (.func 15) [] [])) [(.t 6)]),none⟩,
      ⟨(some 3),(.mv (.t 7)),none⟩,
      ⟨(some 8),(.ext (.t 3) 0),none⟩,
      ⟨(some 9),(.ext (.t 3) 1),none⟩,
      ⟨(some 1),(.mv (.t 8)),none⟩,
      ⟨(some 2),(.mv (.t 9)),none⟩])
    (.seq (.ops [⟨(some 10),(.mv (.t 2)),none⟩,
      ⟨(some 11),(.bin .eql (.t 10) (.k (I 0))),none⟩,
      ⟨(some 12),(.mv (.t 11)),none⟩,
      ⟨(some 13),(.mv (.t 1)),(some (12,true))⟩,
      ⟨(some 14),(.bslice 1 2 [(I 0)] [(0,1,(.k (I 1))),(1,1,(.k (I 0)))]),(some (12,true))⟩,
      ⟨(some 15),(.call (.k (.fn (.func 20) [] [])) [(.t 13),(.t 14)]),(some (12,true))⟩,
      ⟨(some 16),(.pick (.t 12) (.t 15) (.k (B false))),none⟩,
      ⟨(some 0),(.mv (.t 16)),none⟩])
    .ret))) ks fr H ms := rfl
def r19 : List IRes := [(.tmp 0)]
theorem t19 : Try.f19.body.bind (trCode Try.prog Try.f19.ntmps) = some (strip c19) := by kernel_rfl
theorem q19 : trRes Try.prog Try.f19.results.toList = some r19 := by kernel_rfl
theorem fn19 : Try.prog.funcs[19]? = some Try.f19 := by kernel_rfl
theorem nn19 : (Try.f19.name == "runtime.NumGoroutine") = false := by kernel_rfl
theorem nt19 : Try.f19.ntmps = 17 := by kernel_rfl
def c20T1 : ICode :=
  (.keep [] (.seq (.ops [⟨(some 4),(.mv (.k (B true))),none⟩])
  .ret))
theorem w20T1 {x : Cx} {Q : QT} {ks : List Kont} {fr : Fr} {H : AHeap} {ms : List Nat} : W x Q c20T1 ks fr H ms = W x Q (.keep [] (.seq (.ops [⟨(some 4),(.mv (.k (B true))),none⟩])
    .ret)) ks fr H ms := rfl
/- live: [0,1,12,13] -/
def c20L0 : ICode :=
  (.seq (.ops [⟨(some 14),(.bin .lss (.t 13) (.t 12)),none⟩])
  (.seq (.cond (.t 14)
    .skip
    (.exit 0))
  (.seq (.block 1 (.seq (.ops [⟨(some 15),(.mv (.t 13)),none⟩,
    ⟨(some 5),(.mv (.t 15)),none⟩])
  (.seq (.draw 0 [] (.early 1 ⟨(some 16),(.mv (.t 0)),none⟩
    (.early 1 ⟨(some 17),(.mv (.t 5)),none⟩
    (.early 1 ⟨(some 18),(.ixS 1 (.t 16) (.t 17)),none⟩
    (.early 1 ⟨(some 19),(.load false 1 (.t 18)),none⟩
    (.early 1 ⟨(some 20),(.mv (.t 1)),none⟩
    (.early 1 ⟨(some 21),(.mv (.t 5)),none⟩
    (.early 1 ⟨(some 22),(.ixS 1 (.t 20) (.t 21)),none⟩
    (.early 1 ⟨(some 23),(.load false 1 (.t 22)),none⟩
    (.early 0 ⟨(some 24),(.bin .neq (.t 19) (.t 23)),none⟩
    .done))))))))))
  (.keep [0,1,12,13,24] (.cond (.t 24)
    (.seq (.ops [⟨(some 4),(.mv (.k (B false))),none⟩])
    .ret)
    .skip)))))
  (.ops [⟨(some 25),(.bin .add (.t 13) (.k (I 1))),none⟩,
    ⟨(some 13),(.mv (.t 25)),none⟩]))))
theorem w20L0 {x : Cx} {Q : QT} {ks : List Kont} {fr : Fr} {H : AHeap} {ms : List Nat} : W x Q c20L0 ks fr H ms = W x Q (.seq (.ops [⟨(some 14),(.bin .lss (.t 13) (.t 12)),none⟩])
    (.seq (.cond (.t 14)
      .skip
      (.exit 0))
    (.seq (.block 1 (.seq (.ops [⟨(some 15),(.mv (.t 13)),none⟩,
      ⟨(some 5),(.mv (.t 15)),none⟩])
    (.seq (.draw 0 [] (.early 1 ⟨(some 16),(.mv (.t 0)),none⟩
      (.early 1 ⟨(some 17),(.mv (.t 5)),none⟩
      (.early 1 ⟨(some 18),(.ixS 1 (.t 16) (.t 17)),none⟩
      (.early 1 ⟨(some 19),(.load false 1 (.t 18)),none⟩
      (.early 1 ⟨(some 20),(.mv (.t 1)),none⟩
      (.early 1 ⟨(some 21),(.mv (.t 5)),none⟩
      (.early 1 ⟨(some 22),(.ixS 1 (.t 20) (.t 21)),none⟩
      (.early 1 ⟨(some 23),(.load false 1 (.t 22)),none⟩
      (.early 0 ⟨(some 24),(.bin .neq (.t 19) (.t 23)),none⟩
      .done))))))))))
    (.keep [0,1,12,13,24] (.cond (.t 24)
      (.seq (.ops [⟨(some 4),(.mv (.k (B false))),none⟩])
      .ret)
      .skip)))))
    (.ops [⟨(some 25),(.bin .add (.t 13) (.k (I 1))),none⟩,
      ⟨(some 13),(.mv (.t 25)),none⟩])))) ks fr H ms := rfl
def c20 : ICode :=
  (.seq (.ops [⟨(some 4),(.mv (.k (B false))),none⟩])
  (.seq (.seq (.ops [⟨(some 6),(.mv (.t 0)),none⟩,
    ⟨(some 7),(.len (.t 6)),none⟩,
    ⟨(some 8),(.mv (.t 1)),none⟩,
    ⟨(some 9),(.len (.t 8)),none⟩,
    ⟨(some 10),(.bin .neq (.t 7) (.t 9)),none⟩])
  (.cond (.t 10)
    (.seq (.ops [⟨(some 4),(.mv (.k (B false))),none⟩])
    .ret)
    .skip))
  (.seq (.seq (.ops [⟨(some 11),(.mv (.t 0)),none⟩,
    ⟨(some 12),(.len (.t 11)),none⟩,
    ⟨(some 13),(.mv (.k (I 0))),none⟩])
  (.block 0 (.loop c20L0)))
  c20T1)))
theorem w20 {x : Cx} {Q : QT} {ks : List Kont} {fr : Fr} {H : AHeap} {ms : List Nat} : W x Q c20 ks fr H ms = W x Q (.seq (.ops [⟨(some 4),(.mv (.k (B false))),none⟩])
    (.seq (.seq (.ops [⟨(some 6),(.mv (.t 0)),none⟩,
      ⟨(some 7),(.len (.t 6)),none⟩,
      ⟨(some 8),(.mv (.t 1)),none⟩,
      ⟨(some 9),(.len (.t 8)),none⟩,
      ⟨(some 10),(.bin .neq (.t 7) (.t 9)),none⟩])
    (.cond (.t 10)
      (.seq (.ops [⟨(some 4),(.mv (.k (B false))),none⟩])
      .ret)
      .skip))
    (.seq (.seq (.ops [⟨(some 11),(.mv (.t 0)),none⟩,
      ⟨(some 12),(.len (.t 11)),none⟩,
      ⟨(some 13),(.mv (.k (I 0))),none⟩])
    (.block 0 (.loop c20L0)))
    c20T1))) ks fr H ms := rfl
def r20 : List IRes := [(.tmp 4)]
theorem t20 : Try.f20.body.bind (trCode Try.prog Try.f20.ntmps) = some (strip c20) := by kernel_rfl
theorem q20 : trRes Try.prog Try.f20.results.toList = some r20 := by kernel_rfl
theorem fn20 : Try.prog.funcs[20]? = some Try.f20 := by kernel_rfl
theorem nn20 : (Try.f20.name == "runtime.NumGoroutine") = false := by kernel_rfl
theorem nt20 : Try.f20.ntmps = 26 := by kernel_rfl
def c21 : ICode :=
  (.seq (.ops [⟨(some 2),(.mv (.k nilSl)),none⟩])
  (.seq (.ops [⟨(some 6),(.mv (.t 0)),none⟩,
    ⟨(some 7),(.call (.k (.fn (.func 57) [] [])) [(.t 6)]),none⟩,
    ⟨(some 5),(.mv (.t 7)),none⟩,
    ⟨(some 8),(.ext (.t 5) 0),none⟩,
    ⟨(some 9),(.ext (.t 5) 1),none⟩,
    ⟨(some 3),(.mv (.t 8)),none⟩,
    ⟨(some 4),(.mv (.t 9)),none⟩])
  (.seq (.ops [⟨(some 10),(.mv (.t 3)),none⟩,
    ⟨(some 2),(.mv (.t 10)),none⟩])
  .ret)))
theorem w21 {x : Cx} {Q : QT} {ks : List Kont} {fr : Fr} {H : AHeap} {ms : List Nat} : W x Q c21 ks fr H ms = W x Q (.seq (.ops [⟨(some 2),(.mv (.k nilSl)),none⟩])
    (.seq (.ops [⟨(some 6),(.mv (.t 0)),none⟩,
      ⟨(some 7),(.call (.k (.fn (.func 57) [] [])) [(.t 6)]),none⟩,
      ⟨(some 5),(.mv (.t 7)),none⟩,
      ⟨(some 8),(.ext (.t 5) 0),none⟩,
      ⟨(some 9),(.ext (.t 5) 1),none⟩,
      ⟨(some 3),(.mv (.t 8)),none⟩,
      ⟨(some 4),(.mv (.t 9)),none⟩])
    (.seq (.ops [⟨(some 10),(.mv (.t 3)),none⟩,
      ⟨(some 2),(.mv (.t 10)),none⟩])
    .ret))) ks fr H ms := rfl
def r21 : List IRes := [(.tmp 2)]
theorem t21 : Try.f21.body.bind (trCode Try.prog Try.f21.ntmps) = some (strip c21) := by kernel_rfl
theorem q21 : trRes Try.prog Try.f21.results.toList = some r21 := by kernel_rfl
theorem fn21 : Try.prog.funcs[21]? = some Try.f21 := by kernel_rfl
theorem nn21 : (Try.f21.name == "runtime.NumGoroutine") = false := by kernel_rfl
theorem nt21 : Try.f21.ntmps = 11 := by kernel_rfl
def c22 : ICode :=
  (.seq (.ops [⟨(some 2),(.mv (.k nilSl)),none⟩])
  (.seq (.ops [⟨(some 6),(.mv (.t 0)),none⟩,
    ⟨(some 7),(.call (.k (.fn (.func 57) [] [])) [(.t 6)]),none⟩,
    ⟨(some 5),(.mv (.t 7)),none⟩,
    ⟨(some 8),(.ext (.t 5) 0),none⟩,
    ⟨(some 9),(.ext (.t 5) 1),none⟩,
    ⟨(some 3),(.mv (.t 8)),none⟩,
    ⟨(some 4),(.mv (.t 9)),none⟩])
  (.seq (.ops [⟨(some 10),(.mv (.t 4)),none⟩,
    ⟨(some 2),(.mv (.t 10)),none⟩])
  .ret)))
theorem w22 {x : Cx} {Q : QT} {ks : List Kont} {fr : Fr} {H : AHeap} {ms : List Nat} : W x Q c22 ks fr H ms = W x Q (.seq (.ops [⟨(some 2),(.mv (.k nilSl)),none⟩])
    (.seq (.ops [⟨(some 6),(.mv (.t 0)),none⟩,
      ⟨(some 7),(.call (.k (.fn (.func 57) [] [])) [(.t 6)]),none⟩,
      ⟨(some 5),(.mv (.t 7)),none⟩,
      ⟨(some 8),(.ext (.t 5) 0),none⟩,
      ⟨(some 9),(.ext (.t 5) 1),none⟩,
      ⟨(some 3),(.mv (.t 8)),none⟩,
      ⟨(some 4),(.mv (.t 9)),none⟩])
    (.seq (.ops [⟨(some 10),(.mv (.t 4)),none⟩,
      ⟨(some 2),(.mv (.t 10)),none⟩])
    .ret))) ks fr H ms := rfl
def r22 : List IRes := [(.tmp 2)]
theorem t22 : Try.f22.body.bind (trCode Try.prog Try.f22.ntmps) = some (strip c22) := by kernel_rfl
theorem q22 : trRes Try.prog Try.f22.results.toList = some r22 := by kernel_rfl
theorem fn22 : Try.prog.funcs[22]? = some Try.f22 := by kernel_rfl
theorem nn22 : (Try.f22.name == "runtime.NumGoroutine") = false := by kernel_rfl
theorem nt22 : Try.f22.ntmps = 11 := by kernel_rfl
def c23T1 : ICode :=
  (.keep [0,1] (.seq (.ops [⟨(some 33),(.mv (.t 0)),none⟩,
    ⟨(some 34),(.len (.t 33)),none⟩,
    ⟨(some 35),(.mv (.t 1)),none⟩,
    ⟨(some 36),(.bin .eql (.t 34) (.t 35)),none⟩,
    ⟨(some 4),(.mv (.t 36)),none⟩])
  .ret))
theorem w23T1 {x : Cx} {Q : QT} {ks : List Kont} {fr : Fr} {H : AHeap} {ms : List Nat} : W x Q c23T1 ks fr H ms = W x Q (.keep [0,1] (.seq (.ops [⟨(some 33),(.mv (.t 0)),none⟩,
      ⟨(some 34),(.len (.t 33)),none⟩,
      ⟨(some 35),(.mv (.t 1)),none⟩,
      ⟨(some 36),(.bin .eql (.t 34) (.t 35)),none⟩,
      ⟨(some 4),(.mv (.t 36)),none⟩])
    .ret)) ks fr H ms := rfl
/- live: [0,1,5,8,9,10] -/
def c23L0 : ICode :=
  (.seq (.ops [⟨(some 11),(.bin .lss (.t 10) (.t 9)),none⟩])
  (.seq (.cond (.t 11)
    .skip
    (.exit 0))
  (.seq (.block 1 (.seq (.ops [⟨(some 12),(.ixS 1 (.t 8) (.t 10)),none⟩,
    ⟨(some 13),(.load false 1 (.t 12)),none⟩,
    ⟨(some 7),(.mv (.t 13)),none⟩])
  (.seq (.seq (.ops [⟨(some 14),(.mv (.t 7)),none⟩,
    ⟨(some 15),(.bin .lss (.t 14) (.k (I 0))),none⟩,
    ⟨(some 16),(.mv (.t 15)),none⟩,
    ⟨(some 17),(.mv (.t 7)),(some (16,false))⟩,
    ⟨(some 18),(.mv (.t 1)),(some (16,false))⟩,
    ⟨(some 19),(.bin .geq (.t 17) (.t 18)),(some (16,false))⟩,
    ⟨(some 20),(.pick (.t 16) (.k (B true)) (.t 19)),none⟩,
    ⟨(some 21),(.mv (.t 20)),none⟩,
    ⟨(some 22),(.mv (.t 5)),(some (21,false))⟩,
    ⟨(some 23),(.mv (.t 7)),(some (21,false))⟩,
    ⟨(some 24),(.bin .shr (.t 22) (.t 23)),(some (21,false))⟩,
    ⟨(some 25),(.bin .and (.t 24) (.k (I 1))),(some (21,false))⟩,
    ⟨(some 26),(.bin .eql (.t 25) (.k (I 1))),(some (21,false))⟩,
    ⟨(some 27),(.pick (.t 21) (.k (B true)) (.t 26)),none⟩])
  (.cond (.t 27)
    (.seq (.ops [⟨(some 4),(.mv (.k (B false))),none⟩])
    .ret)
    .skip))
  (.ops [⟨(some 28),(.mv (.t 5)),none⟩,
    ⟨(some 29),(.mv (.t 7)),none⟩,
    ⟨(some 30),(.bin .shl (.k (I 1)) (.t 29)),none⟩,
    ⟨(some 31),(.bin .or (.t 28) (.t 30)),none⟩,
    ⟨(some 5),(.mv (.t 31)),none⟩]))))
  (.ops [⟨(some 32),(.bin .add (.t 10) (.k (I 1))),none⟩,
    ⟨(some 10),(.mv (.t 32)),none⟩]))))
theorem w23L0 {x : Cx} {Q : QT} {ks : List Kont} {fr : Fr} {H : AHeap} {ms : List Nat} : W x Q c23L0 ks fr H ms = W x Q (.seq (.ops [⟨(some 11),(.bin .lss (.t 10) (.t 9)),none⟩])
    (.seq (.cond (.t 11)
      .skip
      (.exit 0))
    (.seq (.block 1 (.seq (.ops [⟨(some 12),(.ixS 1 (.t 8) (.t 10)),none⟩,
      ⟨(some 13),(.load false 1 (.t 12)),none⟩,
      ⟨(some 7),(.mv (.t 13)),none⟩])
    (.seq (.seq (.ops [⟨(some 14),(.mv (.t 7)),none⟩,
      ⟨(some 15),(.bin .lss (.t 14) (.k (I 0))),none⟩,
      ⟨(some 16),(.mv (.t 15)),none⟩,
      ⟨(some 17),(.mv (.t 7)),(some (16,false))⟩,
      ⟨(some 18),(.mv (.t 1)),(some (16,false))⟩,
      ⟨(some 19),(.bin .geq (.t 17) (.t 18)),(some (16,false))⟩,
      ⟨(some 20),(.pick (.t 16) (.k (B true)) (.t 19)),none⟩,
      ⟨(some 21),(.mv (.t 20)),none⟩,
      ⟨(some 22),(.mv (.t 5)),(some (21,false))⟩,
      ⟨(some 23),(.mv (.t 7)),(some (21,false))⟩,
      ⟨(some 24),(.bin .shr (.t 22) (.t 23)),(some (21,false))⟩,
      ⟨(some 25),(.bin .and (.t 24) (.k (I 1))),(some (21,false))⟩,
      ⟨(some 26),(.bin .eql (.t 25) (.k (I 1))),(some (21,false))⟩,
      ⟨(some 27),(.pick (.t 21) (.k (B true)) (.t 26)),none⟩])
    (.cond (.t 27)
      (.seq (.ops [⟨(some 4),(.mv (.k (B false))),none⟩])
      .ret)
      .skip))
    (.ops [⟨(some 28),(.mv (.t 5)),none⟩,
      ⟨(some 29),(.mv (.t 7)),none⟩,
      ⟨(some 30),(.bin .shl (.k (I 1)) (.t 29)),none⟩,
      ⟨(some 31),(.bin .or (.t 28) (.t 30)),none⟩,
      ⟨(some 5),(.mv (.t 31)),none⟩]))))
    (.ops [⟨(some 32),(.bin .add (.t 10) (.k (I 1))),none⟩,
      ⟨(some 10),(.mv (.t 32)),none⟩])))) ks fr H ms := rfl
def c23 : ICode :=
  (.seq (.ops [⟨(some 4),(.mv (.k (B false))),none⟩])
  (.seq (.ops [⟨(some 5),(.mv (.k (I 0))),none⟩])
  (.seq (.seq (.ops [⟨(some 8),(.mv (.t 0)),none⟩,
    ⟨(some 9),(.len (.t 8)),none⟩,
    ⟨(some 10),(.mv (.k (I 0))),none⟩])
  (.block 0 (.loop c23L0)))
  c23T1)))
theorem w23 {x : Cx} {Q : QT} {ks : List Kont} {fr : Fr} {H : AHeap} {ms : List Nat} : W x Q c23 ks fr H ms = W x Q (.seq (.ops [⟨(some 4),(.mv (.k (B false))),none⟩])
    (.seq (.ops [⟨(some 5),(.mv (.k (I 0))),none⟩])
    (.seq (.seq (.ops [⟨(some 8),(.mv (.t 0)),none⟩,
      ⟨(some 9),(.len (.t 8)),none⟩,
      ⟨(some 10),(.mv (.k (I 0))),none⟩])
    (.block 0 (.loop c23L0)))
    c23T1))) ks fr H ms := rfl
def r23 : List IRes := [(.tmp 4)]
theorem t23 : Try.f23.body.bind (trCode Try.prog Try.f23.ntmps) = some (strip c23) := by kernel_rfl
theorem q23 : trRes Try.prog Try.f23.results.toList = some r23 := by kernel_rfl
theorem fn23 : Try.prog.funcs[23]? = some Try.f23 := by kernel_rfl
theorem nn23 : (Try.f23.name == "runtime.NumGoroutine") = false := by kernel_rfl
theorem nt23 : Try.f23.ntmps = 37 := by kernel_rfl
def c27 : ICode :=
  (.seq (.ops [⟨(some 2),(.mv (.k nilSl)),none⟩])
  (.seq (.ops [⟨(some 3),(.mv (.t 0)),none⟩,
    ⟨(some 4),(.mv (.t 0)),none⟩,
    ⟨(some 5),(.len (.t 4)),none⟩,
    ⟨(some 6),(.mn (.t 5) (.k (I 9))),none⟩,
    ⟨(some 7),(.slS 1 (.t 3) none (some (.t 6)) none),none⟩,
    ⟨(some 8),(.call (.k (.fn (.func 43) [] [])) [(.t 7)]),none⟩,
    ⟨(some 2),(.mv (.t 8)),none⟩])
  .ret))
theorem w27 {x : Cx} {Q : QT} {ks : List Kont} {fr : Fr} {H : AHeap} {ms : List Nat} : W x Q c27 ks fr H ms = W x Q (.seq (.ops [⟨(some 2),(.mv (.k nilSl)),none⟩])
    (.seq (.ops [⟨(some 3),(.mv (.t 0)),none⟩,
      ⟨(some 4),(.mv (.t 0)),none⟩,
      ⟨(some 5),(.len (.t 4)),none⟩,
      ⟨(some 6),(.mn (.t 5) (.k (I 9))),none⟩,
      ⟨(some 7),(.slS 1 (.t 3) none (some (.t 6)) none),none⟩,
      ⟨(some 8),(.call (.k (.fn (.func 43) [] [])) [(.t 7)]),none⟩,
      ⟨(some 2),(.mv (.t 8)),none⟩])
    .ret)) ks fr H ms := rfl
def r27 : List IRes := [(.tmp 2)]
theorem t27 : Try.f27.body.bind (trCode Try.prog Try.f27.ntmps) = some (strip c27) := by kernel_rfl
theorem q27 : trRes Try.prog Try.f27.results.toList = some r27 := by kernel_rfl
theorem fn27 : Try.prog.funcs[27]? = some Try.f27 := by kernel_rfl
theorem nn27 : (Try.f27.name == "runtime.NumGoroutine") = false := by kernel_rfl
theorem nt27 : Try.f27.ntmps = 9 := by kernel_rfl
def c56T7 : ICode :=
  (.keep [2,3] (.seq (.ops [⟨(some 69),(.mv (.t 2)),none⟩,
    ⟨(some 70),(.mv (.t 3)),none⟩,
    ⟨(some 2),(.mv (.t 69)),none⟩,
    ⟨(some 3),(.mv (.t 70)),none⟩])
  .ret))
theorem w56T7 {x : Cx} {Q : QT} {ks : List Kont} {fr : Fr} {H : AHeap} {ms : List Nat} : W x Q c56T7 ks fr H ms = W x Q (.keep [2,3] (.seq (.ops [⟨(some 69),(.mv (.t 2)),none⟩,
      ⟨(some 70),(.mv (.t 3)),none⟩,
      ⟨(some 2),(.mv (.t 69)),none⟩,
      ⟨(some 3),(.mv (.t 70)),none⟩])
    .ret)) ks fr H ms := rfl
def c56T6 : ICode :=
  (.keep [0,2,3,4,5,6] (.ops [⟨(some 21),(.mv (.t 6)),none⟩,
    ⟨(some 22),(.bin .add (.t 21) (.k (I 1))),none⟩,
    ⟨(some 6),(.mv (.t 22)),none⟩]))
theorem w56T6 {x : Cx} {Q : QT} {ks : List Kont} {fr : Fr} {H : AHeap} {ms : List Nat} : W x Q c56T6 ks fr H ms = W x Q (.keep [0,2,3,4,5,6] (.ops [⟨(some 21),(.mv (.t 6)),none⟩,
      ⟨(some 22),(.bin .add (.t 21) (.k (I 1))),none⟩,
      ⟨(some 6),(.mv (.t 22)),none⟩])) ks fr H ms := rfl
def c56T5 : ICode :=
  (.keep [0,2,3,4,5,6,7] (.ops [⟨(some 66),(.mv (.t 5)),none⟩,
    ⟨(some 67),(.mv (.t 7)),none⟩,
    ⟨(some 68),(.bin .andNot (.t 66) (.t 67)),none⟩,
    ⟨(some 5),(.mv (.t 68)),none⟩]))
theorem w56T5 {x : Cx} {Q : QT} {ks : List Kont} {fr : Fr} {H : AHeap} {ms : List Nat} : W x Q c56T5 ks fr H ms = W x Q (.keep [0,2,3,4,5,6,7] (.ops [⟨(some 66),(.mv (.t 5)),none⟩,
      ⟨(some 67),(.mv (.t 7)),none⟩,
      ⟨(some 68),(.bin .andNot (.t 66) (.t 67)),none⟩,
      ⟨(some 5),(.mv (.t 68)),none⟩])) ks fr H ms := rfl
def c56T4 : ICode :=
  (.keep [0,2,3,4,5,6,7,23,24] (.ops [⟨(some 65),(.bin .add (.t 24) (.k (I 1))),none⟩,
    ⟨(some 24),(.mv (.t 65)),none⟩]))
theorem w56T4 {x : Cx} {Q : QT} {ks : List Kont} {fr : Fr} {H : AHeap} {ms : List Nat} : W x Q c56T4 ks fr H ms = W x Q (.keep [0,2,3,4,5,6,7,23,24] (.ops [⟨(some 65),(.bin .add (.t 24) (.k (I 1))),none⟩,
      ⟨(some 24),(.mv (.t 65)),none⟩])) ks fr H ms := rfl
def c56T3 : ICode :=
  (.keep [0,2,3,4,5,6,7,8,9,23,24] (.seq (.ops [⟨(some 47),(.mv (.t 9)),none⟩,
    ⟨(some 48),(.mv (.t 8)),none⟩,
    ⟨(some 49),(.bin .eql (.t 47) (.t 48)),none⟩])
  (.cond (.t 49)
    (.seq (.ops [⟨(some 50),(.mv (.t 2)),none⟩,
      ⟨(some 51),(.mv (.t 8)),none⟩,
      ⟨(some 52),(.mv (.t 3)),none⟩,
      ⟨(some 53),(.mv (.t 8)),none⟩,
      ⟨(some 54),(.mv (.t 0)),none⟩,
      ⟨(some 55),(.mv (.t 8)),none⟩,
      ⟨(some 56),(.mv (.t 5)),none⟩,
      ⟨(some 57),(.call (.k (.fn (.func 81) [] [])) [(.t 54),(.t 55),(.t 56)]),none⟩,
      ⟨(some 58),(.mv (.t 6)),none⟩,
      ⟨(some 59),(.ixS 1 (.t 50) (.t 51)),none⟩,
      ⟨none,(.store 1 (.t 59) (.t 57)),none⟩,
      ⟨(some 60),(.ixS 1 (.t 52) (.t 53)),none⟩,
      ⟨none,(.store 1 (.t 60) (.t 58)),none⟩])
    (.ops [⟨(some 61),(.mv (.t 7)),none⟩,
      ⟨(some 62),(.mv (.t 8)),none⟩,
      ⟨(some 63),(.bin .shl (.k (I 1)) (.t 62)),none⟩,
      ⟨(some 64),(.bin .or (.t 61) (.t 63)),none⟩,
      ⟨(some 7),(.mv (.t 64)),none⟩]))
    .skip)))
theorem w56T3 {x : Cx} {Q : QT} {ks : List Kont} {fr : Fr} {H : AHeap} {ms : List Nat} : W x Q c56T3 ks fr H ms = W x Q (.keep [0,2,3,4,5,6,7,8,9,23,24] (.seq (.ops [⟨(some 47),(.mv (.t 9)),none⟩,
      ⟨(some 48),(.mv (.t 8)),none⟩,
      ⟨(some 49),(.bin .eql (.t 47) (.t 48)),none⟩])
    (.cond (.t 49)
      (.seq (.ops [⟨(some 50),(.mv (.t 2)),none⟩,
        ⟨(some 51),(.mv (.t 8)),none⟩,
        ⟨(some 52),(.mv (.t 3)),none⟩,
        ⟨(some 53),(.mv (.t 8)),none⟩,
        ⟨(some 54),(.mv (.t 0)),none⟩,
        ⟨(some 55),(.mv (.t 8)),none⟩,
        ⟨(some 56),(.mv (.t 5)),none⟩,
        ⟨(some 57),(.call (.k (.fn (.func 81) [] [])) [(.t 54),(.t 55),(.t 56)]),none⟩,
        ⟨(some 58),(.mv (.t 6)),none⟩,
        ⟨(some 59),(.ixS 1 (.t 50) (.t 51)),none⟩,
        ⟨none,(.store 1 (.t 59) (.t 57)),none⟩,
        ⟨(some 60),(.ixS 1 (.t 52) (.t 53)),none⟩,
        ⟨none,(.store 1 (.t 60) (.t 58)),none⟩])
      (.ops [⟨(some 61),(.mv (.t 7)),none⟩,
        ⟨(some 62),(.mv (.t 8)),none⟩,
        ⟨(some 63),(.bin .shl (.k (I 1)) (.t 62)),none⟩,
        ⟨(some 64),(.bin .or (.t 61) (.t 63)),none⟩,
        ⟨(some 7),(.mv (.t 64)),none⟩]))
      .skip))) ks fr H ms := rfl
/- live: [0,2,3,4,5,6,7,8,9,23,24,36,37] -/
def c56L2 : ICode :=
  (.seq (.ops [⟨(some 38),(.bin .lss (.t 37) (.t 36)),none⟩])
  (.seq (.cond (.t 38)
    .skip
    (.exit 4))
  (.seq (.block 5 (.seq (.seq (.ops [⟨(some 39),(.mv (.t 9)),none⟩,
    ⟨(some 40),(.mv (.t 8)),none⟩,
    ⟨(some 41),(.bin .eql (.t 39) (.t 40)),none⟩])
  (.cond (.t 41)
    (.exit 4)
    .skip))
  (.ops [⟨(some 42),(.mv (.t 0)),none⟩,
    ⟨(some 43),(.mv (.t 9)),none⟩,
    ⟨(some 44),(.mv (.t 5)),none⟩,
    ⟨(some 45),(.call (.k (.fn (.func 81) [] [])) [(.t 42),(.t 43),(.t 44)]),none⟩,
    ⟨(some 9),(.mv (.t 45)),none⟩])))
  (.ops [⟨(some 46),(.bin .add (.t 37) (.k (I 1))),none⟩,
    ⟨(some 37),(.mv (.t 46)),none⟩]))))
theorem w56L2 {x : Cx} {Q : QT} {ks : List Kont} {fr : Fr} {H : AHeap} {ms : List Nat} : W x Q c56L2 ks fr H ms = W x Q (.seq (.ops [⟨(some 38),(.bin .lss (.t 37) (.t 36)),none⟩])
    (.seq (.cond (.t 38)
      .skip
      (.exit 4))
    (.seq (.block 5 (.seq (.seq (.ops [⟨(some 39),(.mv (.t 9)),none⟩,
      ⟨(some 40),(.mv (.t 8)),none⟩,
      ⟨(some 41),(.bin .eql (.t 39) (.t 40)),none⟩])
    (.cond (.t 41)
      (.exit 4)
      .skip))
    (.ops [⟨(some 42),(.mv (.t 0)),none⟩,
      ⟨(some 43),(.mv (.t 9)),none⟩,
      ⟨(some 44),(.mv (.t 5)),none⟩,
      ⟨(some 45),(.call (.k (.fn (.func 81) [] [])) [(.t 42),(.t 43),(.t 44)]),none⟩,
      ⟨(some 9),(.mv (.t 45)),none⟩])))
    (.ops [⟨(some 46),(.bin .add (.t 37) (.k (I 1))),none⟩,
      ⟨(some 37),(.mv (.t 46)),none⟩])))) ks fr H ms := rfl
/- live: [0,2,3,4,5,6,7,23,24] -/
def c56L1 : ICode :=
  (.seq (.ops [⟨(some 25),(.bin .lss (.t 24) (.t 23)),none⟩])
  (.seq (.cond (.t 25)
    .skip
    (.exit 2))
  (.seq (.block 3 (.seq (.ops [⟨(some 26),(.mv (.t 24)),none⟩,
    ⟨(some 8),(.mv (.t 26)),none⟩])
  (.seq (.seq (.ops [⟨(some 27),(.mv (.t 5)),none⟩,
    ⟨(some 28),(.mv (.t 8)),none⟩,
    ⟨(some 29),(.bin .shr (.t 27) (.t 28)),none⟩,
    ⟨(some 30),(.bin .and (.t 29) (.k (I 1))),none⟩,
    ⟨(some 31),(.bin .eql (.t 30) (.k (I 0))),none⟩])
  (.cond (.t 31)
    (.exit 3)
    .skip))
  (.seq (.ops [⟨(some 32),(.mv (.t 0)),none⟩,
    ⟨(some 33),(.mv (.t 8)),none⟩,
    ⟨(some 34),(.mv (.t 5)),none⟩,
    ⟨(some 35),(.call (.k (.fn (.func 81) [] [])) [(.t 32),(.t 33),(.t 34)]),none⟩,
    ⟨(some 9),(.mv (.t 35)),none⟩])
  (.seq (.seq (.ops [⟨(some 36),(.mv (.t 4)),none⟩,
    ⟨(some 37),(.mv (.k (I 0))),none⟩])
  (.block 4 (.loop c56L2)))
  c56T3)))))
  c56T4)))
theorem w56L1 {x : Cx} {Q : QT} {ks : List Kont} {fr : Fr} {H : AHeap} {ms : List Nat} : W x Q c56L1 ks fr H ms = W x Q (.seq (.ops [⟨(some 25),(.bin .lss (.t 24) (.t 23)),none⟩])
    (.seq (.cond (.t 25)
      .skip
      (.exit 2))
    (.seq (.block 3 (.seq (.ops [⟨(some 26),(.mv (.t 24)),none⟩,
      ⟨(some 8),(.mv (.t 26)),none⟩])
    (.seq (.seq (.ops [⟨(some 27),(.mv (.t 5)),none⟩,
      ⟨(some 28),(.mv (.t 8)),none⟩,
      ⟨(some 29),(.bin .shr (.t 27) (.t 28)),none⟩,
      ⟨(some 30),(.bin .and (.t 29) (.k (I 1))),none⟩,
      ⟨(some 31),(.bin .eql (.t 30) (.k (I 0))),none⟩])
    (.cond (.t 31)
      (.exit 3)
      .skip))
    (.seq (.ops [⟨(some 32),(.mv (.t 0)),none⟩,
      ⟨(some 33),(.mv (.t 8)),none⟩,
      ⟨(some 34),(.mv (.t 5)),none⟩,
      ⟨(some 35),(.call (.k (.fn (.func 81) [] [])) [(.t 32),(.t 33),(.t 34)]),none⟩,
      ⟨(some 9),(.mv (.t 35)),none⟩])
    (.seq (.seq (.ops [⟨(some 36),(.mv (.t 4)),none⟩,
      ⟨(some 37),(.mv (.k (I 0))),none⟩])
    (.block 4 (.loop c56L2)))
    c56T3)))))
    c56T4))) ks fr H ms := rfl
/- live: [0,2,3,4,5,6] -/
def c56L0 : ICode :=
  (.seq (.seq (.ops [⟨(some 19),(.mv (.t 5)),none⟩,
    ⟨(some 20),(.bin .neq (.t 19) (.k (I 0))),none⟩])
  (.cond (.t 20)
    .skip
    (.exit 0)))
  (.seq (.block 1 (.seq (.ops [⟨(some 7),(.mv (.k (I 0))),none⟩])
  (.seq (.seq (.ops [⟨(some 23),(.mv (.t 4)),none⟩,
    ⟨(some 24),(.mv (.k (I 0))),none⟩])
  (.block 2 (.loop c56L1)))
  c56T5)))
  c56T6))
theorem w56L0 {x : Cx} {Q : QT} {ks : List Kont} {fr : Fr} {H : AHeap} {ms : List Nat} : W x Q c56L0 ks fr H ms = W x Q (.seq (.seq (.ops [⟨(some 19),(.mv (.t 5)),none⟩,
      ⟨(some 20),(.bin .neq (.t 19) (.k (I 0))),none⟩])
    (.cond (.t 20)
      .skip
      (.exit 0)))
    (.seq (.block 1 (.seq (.ops [⟨(some 7),(.mv (.k (I 0))),none⟩])
    (.seq (.seq (.ops [⟨(some 23),(.mv (.t 4)),none⟩,
      ⟨(some 24),(.mv (.k (I 0))),none⟩])
    (.block 2 (.loop c56L1)))
    c56T5)))
    c56T6)) ks fr H ms := rfl
def c56 : ICode :=
  (.seq (.ops [⟨(some 2),(.mv (.k nilSl)),none⟩,
    ⟨(some 3),(.mv (.k nilSl)),none⟩])
  (.seq (.ops [⟨(some 10),(.mv (.t 0)),none⟩,
    ⟨(some 11),(.len (.t 10)),none⟩,
    ⟨(some 4),(.mv (.t 11)),none⟩])
  (.seq (.draw 2 [] (.early 1 ⟨(some 12),(.mv (.t 4)),none⟩
    (.early 1 ⟨(some 14),(.mv (.t 4)),none⟩
    (.both (.step 0 1 ⟨(some 13),(.mksl 1 8 [(I 0)] (.t 12) (.t 12)),none⟩
      (.early 1 ⟨(some 2),(.mv (.t 13)),none⟩
      (.step 1 1 ⟨(some 15),(.mksl 1 8 [(I 0)] (.t 14) (.t 14)),none⟩
      (.early 0 ⟨(some 3),(.mv (.t 15)),none⟩
      .done))))
    (.step 1 1 ⟨(some 15),(.mksl 1 8 [(I 0)] (.t 14) (.t 14)),none⟩
      (.step 0 1 ⟨(some 13),(.mksl 1 8 [(I 0)] (.t 12) (.t 12)),none⟩
      (.early 1 ⟨(some 2),(.mv (.t 13)),none⟩
      (.early 0 ⟨(some 3),(.mv (.t 15)),none⟩
      .done))))))))
  (.keep [0,2,3,4] (.seq (.seq (.ops [⟨(some 16),(.mv (.t 4)),none⟩,
    ⟨(some 17),(.bin .shl (.k (I 1)) (.t 16)),none⟩,
    ⟨(some 18),(.bin .sub (.t 17) (.k (I 1))),none⟩,
    ⟨(some 5),(.mv (.t 18)),none⟩,
    ⟨(some 6),(.mv (.k (I 1))),none⟩])
  (.block 0 (.loop c56L0)))
  c56T7)))))
theorem w56 {x : Cx} {Q : QT} {ks : List Kont} {fr : Fr} {H : AHeap} {ms : List Nat} : W x Q c56 ks fr H ms = W x Q (.seq (.ops [⟨(some 2),(.mv (.k nilSl)),none⟩,
      ⟨(some 3),(.mv (.k nilSl)),none⟩])
    (.seq (.ops [⟨(some 10),(.mv (.t 0)),none⟩,
      ⟨(some 11),(.len (.t 10)),none⟩,
      ⟨(some 4),(.mv (.t 11)),none⟩])
    (.seq (.draw 2 [] (.early 1 ⟨(some 12),(.mv (.t 4)),none⟩
      (.early 1 ⟨(some 14),(.mv (.t 4)),none⟩
      (.both (.step 0 1 ⟨(some 13),(.mksl 1 8 [(I 0)] (.t 12) (.t 12)),none⟩
        (.early 1 ⟨(some 2),(.mv (.t 13)),none⟩
        (.step 1 1 ⟨(some 15),(.mksl 1 8 [(I 0)] (.t 14) (.t 14)),none⟩
        (.early 0 ⟨(some 3),(.mv (.t 15)),none⟩
        .done))))
      (.step 1 1 ⟨(some 15),(.mksl 1 8 [(I 0)] (.t 14) (.t 14)),none⟩
        (.step 0 1 ⟨(some 13),(.mksl 1 8 [(I 0)] (.t 12) (.t 12)),none⟩
        (.early 1 ⟨(some 2),(.mv (.t 13)),none⟩
        (.early 0 ⟨(some 3),(.mv (.t 15)),none⟩
        .done))))))))
    (.keep [0,2,3,4] (.seq (.seq (.ops [⟨(some 16),(.mv (.t 4)),none⟩,
      ⟨(some 17),(.bin .shl (.k (I 1)) (.t 16)),none⟩,
      ⟨(some 18),(.bin .sub (.t 17) (.k (I 1))),none⟩,
      ⟨(some 5),(.mv (.t 18)),none⟩,
      ⟨(some 6),(.mv (.k (I 1))),none⟩])
    (.block 0 (.loop c56L0)))
    c56T7))))) ks fr H ms := rfl
def r56 : List IRes := [(.tmp 2),(.tmp 3)]
theorem t56 : Try.f56.body.bind (trCode Try.prog Try.f56.ntmps) = some (strip c56) := by kernel_rfl
theorem q56 : trRes Try.prog Try.f56.results.toList = some r56 := by kernel_rfl
theorem fn56 : Try.prog.funcs[56]? = some Try.f56 := by kernel_rfl
theorem nn56 : (Try.f56.name == "runtime.NumGoroutine") = false := by kernel_rfl
theorem nt56 : Try.f56.ntmps = 71 := by kernel_rfl
def c57T12 : ICode :=
  (.keep [5,6] (.seq (.ops [⟨(some 118),(.mv (.t 5)),none⟩,
    ⟨(some 119),(.mv (.t 6)),none⟩,
    ⟨(some 2),(.mv (.t 118)),none⟩,
    ⟨(some 3),(.mv (.t 119)),none⟩])
  .ret))
theorem w57T12 {x : Cx} {Q : QT} {ks : List Kont} {fr : Fr} {H : AHeap} {ms : List Nat} : W x Q c57T12 ks fr H ms = W x Q (.keep [5,6] (.seq (.ops [⟨(some 118),(.mv (.t 5)),none⟩,
      ⟨(some 119),(.mv (.t 6)),none⟩,
      ⟨(some 2),(.mv (.t 118)),none⟩,
      ⟨(some 3),(.mv (.t 119)),none⟩])
    .ret)) ks fr H ms := rfl
def c57T11 : ICode :=
  (.keep [0,4,5,6,7,8] (.ops [⟨(some 26),(.mv (.t 7)),none⟩,
    ⟨(some 27),(.bin .add (.t 26) (.k (I 1))),none⟩,
    ⟨(some 7),(.mv (.t 27)),none⟩]))
theorem w57T11 {x : Cx} {Q : QT} {ks : List Kont} {fr : Fr} {H : AHeap} {ms : List Nat} : W x Q c57T11 ks fr H ms = W x Q (.keep [0,4,5,6,7,8] (.ops [⟨(some 26),(.mv (.t 7)),none⟩,
      ⟨(some 27),(.bin .add (.t 26) (.k (I 1))),none⟩,
      ⟨(some 7),(.mv (.t 27)),none⟩])) ks fr H ms := rfl
/- live: [0,4,5,6,7,8,9,98,99,100] -/
def c57L10 : ICode :=
  (.seq (.ops [⟨(some 101),(.bin .lss (.t 100) (.t 99)),none⟩])
  (.seq (.cond (.t 101)
    .skip
    (.exit 10))
  (.seq (.block 11 (.seq (.ops [⟨(some 102),(.ixS 1 (.t 98) (.t 100)),none⟩,
    ⟨(some 103),(.load false 1 (.t 102)),none⟩,
    ⟨(some 16),(.mv (.t 103)),none⟩])
  (.seq (.ops [⟨(some 104),(.mv (.t 5)),none⟩,
    ⟨(some 105),(.mv (.t 16)),none⟩,
    ⟨(some 106),(.mv (.t 9)),none⟩,
    ⟨(some 107),(.mv (.t 16)),none⟩,
    ⟨(some 108),(.ixS 1 (.t 106) (.t 107)),none⟩,
    ⟨(some 109),(.load false 1 (.t 108)),none⟩,
    ⟨(some 110),(.ixS 1 (.t 104) (.t 105)),none⟩,
    ⟨none,(.store 1 (.t 110) (.t 109)),none⟩])
  (.seq (.ops [⟨(some 111),(.mv (.t 6)),none⟩,
    ⟨(some 112),(.mv (.t 16)),none⟩,
    ⟨(some 113),(.mv (.t 7)),none⟩,
    ⟨(some 114),(.ixS 1 (.t 111) (.t 112)),none⟩,
    ⟨none,(.store 1 (.t 114) (.t 113)),none⟩])
  (.ops [⟨(some 115),(.mv (.t 8)),none⟩,
    ⟨(some 116),(.bin .sub (.t 115) (.k (I 1))),none⟩,
    ⟨(some 8),(.mv (.t 116)),none⟩])))))
  (.ops [⟨(some 117),(.bin .add (.t 100) (.k (I 1))),none⟩,
    ⟨(some 100),(.mv (.t 117)),none⟩]))))
theorem w57L10 {x : Cx} {Q : QT} {ks : List Kont} {fr : Fr} {H : AHeap} {ms : List Nat} : W x Q c57L10 ks fr H ms = W x Q (.seq (.ops [⟨(some 101),(.bin .lss (.t 100) (.t 99)),none⟩])
    (.seq (.cond (.t 101)
      .skip
      (.exit 10))
    (.seq (.block 11 (.seq (.ops [⟨(some 102),(.ixS 1 (.t 98) (.t 100)),none⟩,
      ⟨(some 103),(.load false 1 (.t 102)),none⟩,
      ⟨(some 16),(.mv (.t 103)),none⟩])
    (.seq (.ops [⟨(some 104),(.mv (.t 5)),none⟩,
      ⟨(some 105),(.mv (.t 16)),none⟩,
      ⟨(some 106),(.mv (.t 9)),none⟩,
      ⟨(some 107),(.mv (.t 16)),none⟩,
      ⟨(some 108),(.ixS 1 (.t 106) (.t 107)),none⟩,
      ⟨(some 109),(.load false 1 (.t 108)),none⟩,
      ⟨(some 110),(.ixS 1 (.t 104) (.t 105)),none⟩,
      ⟨none,(.store 1 (.t 110) (.t 109)),none⟩])
    (.seq (.ops [⟨(some 111),(.mv (.t 6)),none⟩,
      ⟨(some 112),(.mv (.t 16)),none⟩,
      ⟨(some 113),(.mv (.t 7)),none⟩,
      ⟨(some 114),(.ixS 1 (.t 111) (.t 112)),none⟩,
      ⟨none,(.store 1 (.t 114) (.t 113)),none⟩])
    (.ops [⟨(some 115),(.mv (.t 8)),none⟩,
      ⟨(some 116),(.bin .sub (.t 115) (.k (I 1))),none⟩,
      ⟨(some 8),(.mv (.t 116)),none⟩])))))
    (.ops [⟨(some 117),(.bin .add (.t 100) (.k (I 1))),none⟩,
      ⟨(some 100),(.mv (.t 117)),none⟩])))) ks fr H ms := rfl
def c57T9 : ICode :=
  (.keep [0,4,5,6,7,8,9,12] (.seq (.ops [⟨(some 98),(.mv (.t 12)),none⟩,
    ⟨(some 99),(.len (.t 98)),none⟩,
    ⟨(some 100),(.mv (.k (I 0))),none⟩])
  (.block 10 (.loop c57L10))))
theorem w57T9 {x : Cx} {Q : QT} {ks : List Kont} {fr : Fr} {H : AHeap} {ms : List Nat} : W x Q c57T9 ks fr H ms = W x Q (.keep [0,4,5,6,7,8,9,12] (.seq (.ops [⟨(some 98),(.mv (.t 12)),none⟩,
      ⟨(some 99),(.len (.t 98)),none⟩,
      ⟨(some 100),(.mv (.k (I 0))),none⟩])
    (.block 10 (.loop c57L10)))) ks fr H ms := rfl
def c57T8 : ICode :=
  (.keep [0,4,5,6,7,8,9,12,64,65] (.ops [⟨(some 97),(.bin .add (.t 65) (.k (I 1))),none⟩,
    ⟨(some 65),(.mv (.t 97)),none⟩]))
theorem w57T8 {x : Cx} {Q : QT} {ks : List Kont} {fr : Fr} {H : AHeap} {ms : List Nat} : W x Q c57T8 ks fr H ms = W x Q (.keep [0,4,5,6,7,8,9,12,64,65] (.ops [⟨(some 97),(.bin .add (.t 65) (.k (I 1))),none⟩,
      ⟨(some 65),(.mv (.t 97)),none⟩])) ks fr H ms := rfl
def c57T7 : ICode :=
  (.keep [0,4,5,6,7,8,9,12,13,14,64,65] (.seq (.ops [⟨(some 83),(.mv (.t 6)),none⟩,
    ⟨(some 84),(.mv (.t 13)),none⟩,
    ⟨(some 85),(.ixS 1 (.t 83) (.t 84)),none⟩,
    ⟨(some 86),(.load false 1 (.t 85)),none⟩,
    ⟨(some 87),(.bin .eql (.t 86) (.k (I 0))),none⟩,
    ⟨(some 88),(.mv (.t 87)),none⟩,
    ⟨(some 89),(.mv (.t 14)),(some (88,true))⟩,
    ⟨(some 90),(.mv (.t 13)),(some (88,true))⟩,
    ⟨(some 91),(.bin .eql (.t 89) (.t 90)),(some (88,true))⟩,
    ⟨(some 92),(.pick (.t 88) (.t 91) (.k (B false))),none⟩])
  (.cond (.t 92)
    (.ops [⟨(some 93),(.mv (.t 12)),none⟩,
      ⟨(some 94),(.mv (.t 13)),none⟩,
      ⟨(some 95),(.bslice 1 1 [(I 0)] [(0,1,(.t 94))]),none⟩,
      ⟨(some 96),(.append 1 8 (.t 93) (.t 95)),none⟩,
      ⟨(some 12),(.mv (.t 96)),none⟩])
    .skip)))
theorem w57T7 {x : Cx} {Q : QT} {ks : List Kont} {fr : Fr} {H : AHeap} {ms : List Nat} : W x Q c57T7 ks fr H ms = W x Q (.keep [0,4,5,6,7,8,9,12,13,14,64,65] (.seq (.ops [⟨(some 83),(.mv (.t 6)),none⟩,
      ⟨(some 84),(.mv (.t 13)),none⟩,
      ⟨(some 85),(.ixS 1 (.t 83) (.t 84)),none⟩,
      ⟨(some 86),(.load false 1 (.t 85)),none⟩,
      ⟨(some 87),(.bin .eql (.t 86) (.k (I 0))),none⟩,
      ⟨(some 88),(.mv (.t 87)),none⟩,
      ⟨(some 89),(.mv (.t 14)),(some (88,true))⟩,
      ⟨(some 90),(.mv (.t 13)),(some (88,true))⟩,
      ⟨(some 91),(.bin .eql (.t 89) (.t 90)),(some (88,true))⟩,
      ⟨(some 92),(.pick (.t 88) (.t 91) (.k (B false))),none⟩])
    (.cond (.t 92)
      (.ops [⟨(some 93),(.mv (.t 12)),none⟩,
        ⟨(some 94),(.mv (.t 13)),none⟩,
        ⟨(some 95),(.bslice 1 1 [(I 0)] [(0,1,(.t 94))]),none⟩,
        ⟨(some 96),(.append 1 8 (.t 93) (.t 95)),none⟩,
        ⟨(some 12),(.mv (.t 96)),none⟩])
      .skip))) ks fr H ms := rfl
/- live: [0,4,5,6,7,8,9,12,13,14,64,65,72,73] -/
def c57L6 : ICode :=
  (.seq (.ops [⟨(some 74),(.bin .lss (.t 73) (.t 72)),none⟩])
  (.seq (.cond (.t 74)
    .skip
    (.exit 8))
  (.seq (.block 9 (.seq (.ops [⟨(some 75),(.mv (.t 14)),none⟩,
    ⟨(some 76),(.mv (.t 13)),none⟩,
    ⟨(some 77),(.bin .neq (.t 75) (.t 76)),none⟩])
  (.cond (.t 77)
    (.ops [⟨(some 78),(.mv (.t 9)),none⟩,
      ⟨(some 79),(.mv (.t 14)),none⟩,
      ⟨(some 80),(.ixS 1 (.t 78) (.t 79)),none⟩,
      ⟨(some 81),(.load false 1 (.t 80)),none⟩,
      ⟨(some 14),(.mv (.t 81)),none⟩])
    .skip)))
  (.ops [⟨(some 82),(.bin .add (.t 73) (.k (I 1))),none⟩,
    ⟨(some 73),(.mv (.t 82)),none⟩]))))
theorem w57L6 {x : Cx} {Q : QT} {ks : List Kont} {fr : Fr} {H : AHeap} {ms : List Nat} : W x Q c57L6 ks fr H ms = W x Q (.seq (.ops [⟨(some 74),(.bin .lss (.t 73) (.t 72)),none⟩])
    (.seq (.cond (.t 74)
      .skip
      (.exit 8))
    (.seq (.block 9 (.seq (.ops [⟨(some 75),(.mv (.t 14)),none⟩,
      ⟨(some 76),(.mv (.t 13)),none⟩,
      ⟨(some 77),(.bin .neq (.t 75) (.t 76)),none⟩])
    (.cond (.t 77)
      (.ops [⟨(some 78),(.mv (.t 9)),none⟩,
        ⟨(some 79),(.mv (.t 14)),none⟩,
        ⟨(some 80),(.ixS 1 (.t 78) (.t 79)),none⟩,
        ⟨(some 81),(.load false 1 (.t 80)),none⟩,
        ⟨(some 14),(.mv (.t 81)),none⟩])
      .skip)))
    (.ops [⟨(some 82),(.bin .add (.t 73) (.k (I 1))),none⟩,
      ⟨(some 73),(.mv (.t 82)),none⟩])))) ks fr H ms := rfl
/- live: [0,4,5,6,7,8,9,12,64,65] -/
def c57L5 : ICode :=
  (.seq (.ops [⟨(some 66),(.bin .lss (.t 65) (.t 64)),none⟩])
  (.seq (.cond (.t 66)
    .skip
    (.exit 6))
  (.seq (.block 7 (.seq (.ops [⟨(some 67),(.mv (.t 65)),none⟩,
    ⟨(some 13),(.mv (.t 67)),none⟩])
  (.seq (.ops [⟨(some 68),(.mv (.t 9)),none⟩,
    ⟨(some 69),(.mv (.t 13)),none⟩,
    ⟨(some 70),(.ixS 1 (.t 68) (.t 69)),none⟩,
    ⟨(some 71),(.load false 1 (.t 70)),none⟩,
    ⟨(some 14),(.mv (.t 71)),none⟩])
  (.seq (.seq (.ops [⟨(some 72),(.mv (.t 4)),none⟩,
    ⟨(some 73),(.mv (.k (I 0))),none⟩])
  (.block 8 (.loop c57L6)))
  c57T7))))
  c57T8)))
theorem w57L5 {x : Cx} {Q : QT} {ks : List Kont} {fr : Fr} {H : AHeap} {ms : List Nat} : W x Q c57L5 ks fr H ms = W x Q (.seq (.ops [⟨(some 66),(.bin .lss (.t 65) (.t 64)),none⟩])
    (.seq (.cond (.t 66)
      .skip
      (.exit 6))
    (.seq (.block 7 (.seq (.ops [⟨(some 67),(.mv (.t 65)),none⟩,
      ⟨(some 13),(.mv (.t 67)),none⟩])
    (.seq (.ops [⟨(some 68),(.mv (.t 9)),none⟩,
      ⟨(some 69),(.mv (.t 13)),none⟩,
      ⟨(some 70),(.ixS 1 (.t 68) (.t 69)),none⟩,
      ⟨(some 71),(.load false 1 (.t 70)),none⟩,
      ⟨(some 14),(.mv (.t 71)),none⟩])
    (.seq (.seq (.ops [⟨(some 72),(.mv (.t 4)),none⟩,
      ⟨(some 73),(.mv (.k (I 0))),none⟩])
    (.block 8 (.loop c57L6)))
    c57T7))))
    c57T8))) ks fr H ms := rfl
def c57T4 : ICode :=
  (.keep [0,4,5,6,7,8,9] (.seq (.ops [⟨(some 12),(.mv (.k nilSl)),none⟩])
  (.seq (.seq (.ops [⟨(some 63),(.mv (.t 0)),none⟩,
    ⟨(some 64),(.len (.t 63)),none⟩,
    ⟨(some 65),(.mv (.k (I 0))),none⟩])
  (.block 6 (.loop c57L5)))
  c57T9)))
theorem w57T4 {x : Cx} {Q : QT} {ks : List Kont} {fr : Fr} {H : AHeap} {ms : List Nat} : W x Q c57T4 ks fr H ms = W x Q (.keep [0,4,5,6,7,8,9] (.seq (.ops [⟨(some 12),(.mv (.k nilSl)),none⟩])
    (.seq (.seq (.ops [⟨(some 63),(.mv (.t 0)),none⟩,
      ⟨(some 64),(.len (.t 63)),none⟩,
      ⟨(some 65),(.mv (.k (I 0))),none⟩])
    (.block 6 (.loop c57L5)))
    c57T9))) ks fr H ms := rfl
def c57T3 : ICode :=
  (.keep [0,4,5,6,7,8,9,31,32] (.ops [⟨(some 62),(.bin .add (.t 32) (.k (I 1))),none⟩,
    ⟨(some 32),(.mv (.t 62)),none⟩]))
theorem w57T3 {x : Cx} {Q : QT} {ks : List Kont} {fr : Fr} {H : AHeap} {ms : List Nat} : W x Q c57T3 ks fr H ms = W x Q (.keep [0,4,5,6,7,8,9,31,32] (.ops [⟨(some 62),(.bin .add (.t 32) (.k (I 1))),none⟩,
      ⟨(some 32),(.mv (.t 62)),none⟩])) ks fr H ms := rfl
/- live: [0,4,5,6,7,8,9,10,11,31,32] -/
def c57L2 : ICode :=
  (.seq (.seq (.ops [⟨(some 37),(.mv (.t 11)),none⟩,
    ⟨(some 38),(.bin .geq (.t 37) (.k (I 0))),none⟩])
  (.cond (.t 38)
    .skip
    (.exit 4)))
  (.seq (.block 5 (.seq (.ops [⟨(some 41),(.mv (.t 6)),none⟩,
    ⟨(some 42),(.mv (.t 0)),none⟩,
    ⟨(some 43),(.mv (.t 10)),none⟩,
    ⟨(some 44),(.ixS 1 (.t 42) (.t 43)),none⟩,
    ⟨(some 45),(.load false 1 (.t 44)),none⟩,
    ⟨(some 46),(.mv (.t 11)),none⟩,
    ⟨(some 47),(.ixS 1 (.t 45) (.t 46)),none⟩,
    ⟨(some 48),(.load false 1 (.t 47)),none⟩,
    ⟨(some 49),(.ixS 1 (.t 41) (.t 48)),none⟩,
    ⟨(some 50),(.load false 1 (.t 49)),none⟩,
    ⟨(some 51),(.bin .eql (.t 50) (.k (I 0))),none⟩])
  (.cond (.t 51)
    (.ops [⟨(some 52),(.mv (.t 9)),none⟩,
      ⟨(some 53),(.mv (.t 10)),none⟩,
      ⟨(some 54),(.mv (.t 0)),none⟩,
      ⟨(some 55),(.mv (.t 10)),none⟩,
      ⟨(some 56),(.ixS 1 (.t 54) (.t 55)),none⟩,
      ⟨(some 57),(.load false 1 (.t 56)),none⟩,
      ⟨(some 58),(.mv (.t 11)),none⟩,
      ⟨(some 59),(.ixS 1 (.t 57) (.t 58)),none⟩,
      ⟨(some 60),(.load false 1 (.t 59)),none⟩,
      ⟨(some 61),(.ixS 1 (.t 52) (.t 53)),none⟩,
      ⟨none,(.store 1 (.t 61) (.t 60)),none⟩])
    .skip)))
  (.ops [⟨(some 39),(.mv (.t 11)),none⟩,
    ⟨(some 40),(.bin .sub (.t 39) (.k (I 1))),none⟩,
    ⟨(some 11),(.mv (.t 40)),none⟩])))
theorem w57L2 {x : Cx} {Q : QT} {ks : List Kont} {fr : Fr} {H : AHeap} {ms : List Nat} : W x Q c57L2 ks fr H ms = W x Q (.seq (.seq (.ops [⟨(some 37),(.mv (.t 11)),none⟩,
      ⟨(some 38),(.bin .geq (.t 37) (.k (I 0))),none⟩])
    (.cond (.t 38)
      .skip
      (.exit 4)))
    (.seq (.block 5 (.seq (.ops [⟨(some 41),(.mv (.t 6)),none⟩,
      ⟨(some 42),(.mv (.t 0)),none⟩,
      ⟨(some 43),(.mv (.t 10)),none⟩,
      ⟨(some 44),(.ixS 1 (.t 42) (.t 43)),none⟩,
      ⟨(some 45),(.load false 1 (.t 44)),none⟩,
      ⟨(some 46),(.mv (.t 11)),none⟩,
      ⟨(some 47),(.ixS 1 (.t 45) (.t 46)),none⟩,
      ⟨(some 48),(.load false 1 (.t 47)),none⟩,
      ⟨(some 49),(.ixS 1 (.t 41) (.t 48)),none⟩,
      ⟨(some 50),(.load false 1 (.t 49)),none⟩,
      ⟨(some 51),(.bin .eql (.t 50) (.k (I 0))),none⟩])
    (.cond (.t 51)
      (.ops [⟨(some 52),(.mv (.t 9)),none⟩,
        ⟨(some 53),(.mv (.t 10)),none⟩,
        ⟨(some 54),(.mv (.t 0)),none⟩,
        ⟨(some 55),(.mv (.t 10)),none⟩,
        ⟨(some 56),(.ixS 1 (.t 54) (.t 55)),none⟩,
        ⟨(some 57),(.load false 1 (.t 56)),none⟩,
        ⟨(some 58),(.mv (.t 11)),none⟩,
        ⟨(some 59),(.ixS 1 (.t 57) (.t 58)),none⟩,
        ⟨(some 60),(.load false 1 (.t 59)),none⟩,
        ⟨(some 61),(.ixS 1 (.t 52) (.t 53)),none⟩,
        ⟨none,(.store 1 (.t 61) (.t 60)),none⟩])
      .skip)))
    (.ops [⟨(some 39),(.mv (.t 11)),none⟩,
      ⟨(some 40),(.bin .sub (.t 39) (.k (I 1))),none⟩,
      ⟨(some 11),(.mv (.t 40)),none⟩]))) ks fr H ms := rfl
/- live: [0,4,5,6,7,8,9,31,32] -/
def c57L1 : ICode :=
  (.seq (.ops [⟨(some 33),(.bin .lss (.t 32) (.t 31)),none⟩])
  (.seq (.cond (.t 33)
    .skip
    (.exit 2))
  (.seq (.block 3 (.seq (.ops [⟨(some 34),(.mv (.t 32)),none⟩,
    ⟨(some 10),(.mv (.t 34)),none⟩])
  (.seq (.ops [⟨(some 35),(.mv (.t 4)),none⟩,
    ⟨(some 36),(.bin .sub (.t 35) (.k (I 1))),none⟩,
    ⟨(some 11),(.mv (.t 36)),none⟩])
  (.block 4 (.loop c57L2)))))
  c57T3)))
theorem w57L1 {x : Cx} {Q : QT} {ks : List Kont} {fr : Fr} {H : AHeap} {ms : List Nat} : W x Q c57L1 ks fr H ms = W x Q (.seq (.ops [⟨(some 33),(.bin .lss (.t 32) (.t 31)),none⟩])
    (.seq (.cond (.t 33)
      .skip
      (.exit 2))
    (.seq (.block 3 (.seq (.ops [⟨(some 34),(.mv (.t 32)),none⟩,
      ⟨(some 10),(.mv (.t 34)),none⟩])
    (.seq (.ops [⟨(some 35),(.mv (.t 4)),none⟩,
      ⟨(some 36),(.bin .sub (.t 35) (.k (I 1))),none⟩,
      ⟨(some 11),(.mv (.t 36)),none⟩])
    (.block 4 (.loop c57L2)))))
    c57T3))) ks fr H ms := rfl
/- live: [0,4,5,6,7,8] -/
def c57L0 : ICode :=
  (.seq (.seq (.ops [⟨(some 24),(.mv (.t 8)),none⟩,
    ⟨(some 25),(.bin .gtr (.t 24) (.k (I 0))),none⟩])
  (.cond (.t 25)
    .skip
    (.exit 0)))
  (.seq (.block 1 (.seq (.ops [⟨(some 28),(.mv (.t 4)),none⟩,
    ⟨(some 29),(.mksl 1 8 [(I 0)] (.t 28) (.t 28)),none⟩,
    ⟨(some 9),(.mv (.t 29)),none⟩])
  (.seq (.seq (.ops [⟨(some 30),(.mv (.t 0)),none⟩,
    ⟨(some 31),(.len (.t 30)),none⟩,
    ⟨(some 32),(.mv (.k (I 0))),none⟩])
  (.block 2 (.loop c57L1)))
  c57T4)))
  c57T11))
theorem w57L0 {x : Cx} {Q : QT} {ks : List Kont} {fr : Fr} {H : AHeap} {ms : List Nat} : W x Q c57L0 ks fr H ms = W x Q (.seq (.seq (.ops [⟨(some 24),(.mv (.t 8)),none⟩,
      ⟨(some 25),(.bin .gtr (.t 24) (.k (I 0))),none⟩])
    (.cond (.t 25)
      .skip
      (.exit 0)))
    (.seq (.block 1 (.seq (.ops [⟨(some 28),(.mv (.t 4)),none⟩,
      ⟨(some 29),(.mksl 1 8 [(I 0)] (.t 28) (.t 28)),none⟩,
      ⟨(some 9),(.mv (.t 29)),none⟩])
    (.seq (.seq (.ops [⟨(some 30),(.mv (.t 0)),none⟩,
      ⟨(some 31),(.len (.t 30)),none⟩,
      ⟨(some 32),(.mv (.k (I 0))),none⟩])
    (.block 2 (.loop c57L1)))
    c57T4)))
    c57T11)) ks fr H ms := rfl
def c57 : ICode :=
  (.seq (.ops [⟨(some 2),(.mv (.k nilSl)),none⟩,
    ⟨(some 3),(.mv (.k nilSl)),none⟩])
  (.seq (.ops [⟨(some 17),(.mv (.t 0)),none⟩,
    ⟨(some 18),(.len (.t 17)),none⟩,
    ⟨(some 4),(.mv (.t 18)),none⟩])
  (.seq (.draw 2 [] (.early 1 ⟨(some 19),(.mv (.t 4)),none⟩
    (.early 1 ⟨(some 21),(.mv (.t 4)),none⟩
    (.both (.step 0 1 ⟨(some 20),(.mksl 1 8 [(I 0)] (.t 19) (.t 19)),none⟩
      (.early 1 ⟨(some 5),(.mv (.t 20)),none⟩
      (.step 1 1 ⟨(some 22),(.mksl 1 8 [(I 0)] (.t 21) (.t 21)),none⟩
      (.early 0 ⟨(some 6),(.mv (.t 22)),none⟩
      .done))))
    (.step 1 1 ⟨(some 22),(.mksl 1 8 [(I 0)] (.t 21) (.t 21)),none⟩
      (.step 0 1 ⟨(some 20),(.mksl 1 8 [(I 0)] (.t 19) (.t 19)),none⟩
      (.early 1 ⟨(some 5),(.mv (.t 20)),none⟩
      (.early 0 ⟨(some 6),(.mv (.t 22)),none⟩
      .done))))))))
  (.keep [0,4,5,6] (.seq (.seq (.ops [⟨(some 23),(.mv (.t 4)),none⟩,
    ⟨(some 7),(.mv (.k (I 1))),none⟩,
    ⟨(some 8),(.mv (.t 23)),none⟩])
  (.block 0 (.loop c57L0)))
  c57T12)))))
theorem w57 {x : Cx} {Q : QT} {ks : List Kont} {fr : Fr} {H : AHeap} {ms : List Nat} : W x Q c57 ks fr H ms = W x Q (.seq (.ops [⟨(some 2),(.mv (.k nilSl)),none⟩,
      ⟨(some 3),(.mv (.k nilSl)),none⟩])
    (.seq (.ops [⟨(some 17),(.mv (.t 0)),none⟩,
      ⟨(some 18),(.len (.t 17)),none⟩,
      ⟨(some 4),(.mv (.t 18)),none⟩])
    (.seq (.draw 2 [] (.early 1 ⟨(some 19),(.mv (.t 4)),none⟩
      (.early 1 ⟨(some 21),(.mv (.t 4)),none⟩
      (.both (.step 0 1 ⟨(some 20),(.mksl 1 8 [(I 0)] (.t 19) (.t 19)),none⟩
        (.early 1 ⟨(some 5),(.mv (.t 20)),none⟩
        (.step 1 1 ⟨(some 22),(.mksl 1 8 [(I 0)] (.t 21) (.t 21)),none⟩
        (.early 0 ⟨(some 6),(.mv (.t 22)),none⟩
        .done))))
      (.step 1 1 ⟨(some 22),(.mksl 1 8 [(I 0)] (.t 21) (.t 21)),none⟩
        (.step 0 1 ⟨(some 20),(.mksl 1 8 [(I 0)] (.t 19) (.t 19)),none⟩
        (.early 1 ⟨(some 5),(.mv (.t 20)),none⟩
        (.early 0 ⟨(some 6),(.mv (.t 22)),none⟩
        .done))))))))
    (.keep [0,4,5,6] (.seq (.seq (.ops [⟨(some 23),(.mv (.t 4)),none⟩,
      ⟨(some 7),(.mv (.k (I 1))),none⟩,
      ⟨(some 8),(.mv (.t 23)),none⟩])
    (.block 0 (.loop c57L0)))
    c57T12))))) ks fr H ms := rfl
def r57 : List IRes := [(.tmp 2),(.tmp 3)]
theorem t57 : Try.f57.body.bind (trCode Try.prog Try.f57.ntmps) = some (strip c57) := by kernel_rfl
theorem q57 : trRes Try.prog Try.f57.results.toList = some r57 := by kernel_rfl
theorem fn57 : Try.prog.funcs[57]? = some Try.f57 := by kernel_rfl
theorem nn57 : (Try.f57.name == "runtime.NumGoroutine") = false := by kernel_rfl
theorem nt57 : Try.f57.ntmps = 120 := by kernel_rfl
end Go.Proofs.Ytkmmngphcodjjaa
