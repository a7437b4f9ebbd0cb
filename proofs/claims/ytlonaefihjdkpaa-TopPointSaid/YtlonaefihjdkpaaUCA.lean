/- The code of some functions of the program,cleaned: printed by a program of mine,checked here. -/
import Derived.Test.YtlonaefihjdkpaaProg
import Derived.Test.YtlonaefihjdkpaaAS
import Derived.KernelRfl
namespace Go.Proofs.Ytlonaefihjdkpaa
open Go.Abs AVal
theorem mixed : Try.prog.follows .mixedOrders = true := by kernel_rfl
def c6 : ICode :=
  (.seq (.ops [⟨(some 2),(.mv (.k nilSl)),none⟩])
  (.seq (.seq (.ops [⟨(some 3),(.mv (.t 0)),none⟩,
    ⟨(some 4),(.eqnil false (.t 3)),none⟩])
  (.cond (.t 4)
    (.seq (.ops [⟨(some 2),(.mv (.k nilSl)),none⟩])
    .ret)
    .skip))
  (.seq (.ops [⟨(some 5),(.bslice 1 0 [(I 0)] []),none⟩,
    ⟨(some 6),(.mv (.t 0)),none⟩,
    ⟨(some 7),(.append 1 8 (.t 5) (.t 6)),none⟩,
    ⟨(some 2),(.mv (.t 7)),none⟩])
  .ret)))
theorem w6 {x : Cx} {Q : QT} {ks : List Kont} {fr : Fr} {H : AHeap} {ms : List Nat} : W x Q c6 ks fr H ms = W x Q (.seq (.ops [⟨(some 2),(.mv (.k nilSl)),none⟩])
    (.seq (.seq (.ops [⟨(some 3),(.mv (.t 0)),none⟩,
      ⟨(some 4),(.eqnil false (.t 3)),none⟩])
    (.cond (.t 4)
      (.seq (.ops [⟨(some 2),(.mv (.k nilSl)),none⟩])
      .ret)
      .skip))
    (.seq (.ops [⟨(some 5),(.bslice 1 0 [(I 0)] []),none⟩,
      ⟨(some 6),(.mv (.t 0)),none⟩,
      ⟨(some 7),(.append 1 8 (.t 5) (.t 6)),none⟩,
      ⟨(some 2),(.mv (.t 7)),none⟩])
    .ret))) ks fr H ms := rfl
def r6 : List IRes := [(.tmp 2)]
theorem t6 : Try.f6.body.bind (trCode Try.prog Try.f6.ntmps) = some (strip c6) := by kernel_rfl
theorem q6 : trRes Try.prog Try.f6.results.toList = some r6 := by kernel_rfl
theorem fn6 : Try.prog.funcs[6]? = some Try.f6 := by kernel_rfl
theorem nn6 : (Try.f6.name == "runtime.NumGoroutine") = false := by kernel_rfl
theorem nt6 : Try.f6.ntmps = 8 := by kernel_rfl
def c44T1 : ICode :=
  (.keep [0,1,5] (.seq (.ops [⟨(some 26),(.mv (.t 0)),none⟩,
    ⟨(some 27),(.len (.t 26)),none⟩,
    ⟨(some 28),(.mv (.t 1)),none⟩,
    ⟨(some 29),(.bin .eql (.t 27) (.t 28)),none⟩,
    ⟨(some 30),(.mv (.t 29)),none⟩,
    ⟨(some 31),(.mv (.t 5)),(some (30,true))⟩,
    ⟨(some 32),(.mv (.t 1)),(some (30,true))⟩,
    ⟨(some 33),(.bin .shl (.k (I 1)) (.t 32)),(some (30,true))⟩,
    ⟨(some 34),(.bin .sub (.t 33) (.k (I 1))),(some (30,true))⟩,
    ⟨(some 35),(.bin .eql (.t 31) (.t 34)),(some (30,true))⟩,
    ⟨(some 36),(.pick (.t 30) (.t 35) (.k (B false))),none⟩,
    ⟨(some 4),(.mv (.t 36)),none⟩])
  .ret))
theorem w44T1 {x : Cx} {Q : QT} {ks : List Kont} {fr : Fr} {H : AHeap} {ms : List Nat} : W x Q c44T1 ks fr H ms = W x Q (.keep [0,1,5] (.seq (.ops [⟨(some 26),(.mv (.t 0)),none⟩,
      ⟨(some 27),(.len (.t 26)),none⟩,
      ⟨(some 28),(.mv (.t 1)),none⟩,
      ⟨(some 29),(.bin .eql (.t 27) (.t 28)),none⟩,
      ⟨(some 30),(.mv (.t 29)),none⟩,
      ⟨(some 31),(.mv (.t 5)),(some (30,true))⟩,
      ⟨(some 32),(.mv (.t 1)),(some (30,true))⟩,
      ⟨(some 33),(.bin .shl (.k (I 1)) (.t 32)),(some (30,true))⟩,
      ⟨(some 34),(.bin .sub (.t 33) (.k (I 1))),(some (30,true))⟩,
      ⟨(some 35),(.bin .eql (.t 31) (.t 34)),(some (30,true))⟩,
      ⟨(some 36),(.pick (.t 30) (.t 35) (.k (B false))),none⟩,
      ⟨(some 4),(.mv (.t 36)),none⟩])
    .ret)) ks fr H ms := rfl
/- live: [0,1,5,8,9,10] -/
def c44L0 : ICode :=
  (.seq (.ops [⟨(some 11),(.bin .lss (.t 10) (.t 9)),none⟩])
  (.seq (.cond (.t 11)
    .skip
    (.exit 0))
  (.seq (.block 1 (.seq (.ops [⟨(some 12),(.ixS 1 (.t 8) (.t 10)),none⟩,
    ⟨(some 13),(.load false 1 (.t 12)),none⟩,
    ⟨(some 7),(.mv (.t 13)),none⟩])
  (.seq (.seq (.ops [⟨(some 14),(.mv (.t 7)),none⟩,
    ⟨(some 15),(.bin .lss (.t 14) (.k (I 0))),none⟩,
    ⟨(some 16),(.mv (.t 15)),none⟩,
    ⟨(some 17),(.mv (.t 7)),(some (16,false))⟩,
    ⟨(some 18),(.mv (.t 1)),(some (16,false))⟩,
    ⟨(some 19),(.bin .geq (.t 17) (.t 18)),(some (16,false))⟩,
    ⟨(some 20),(.pick (.t 16) (.k (B true)) (.t 19)),none⟩])
  (.cond (.t 20)
    (.seq (.ops [⟨(some 4),(.mv (.k (B false))),none⟩])
    .ret)
    .skip))
  (.ops [⟨(some 21),(.mv (.t 5)),none⟩,
    ⟨(some 22),(.mv (.t 7)),none⟩,
    ⟨(some 23),(.bin .shl (.k (I 1)) (.t 22)),none⟩,
    ⟨(some 24),(.bin .or (.t 21) (.t 23)),none⟩,
    ⟨(some 5),(.mv (.t 24)),none⟩]))))
  (.ops [⟨(some 25),(.bin .add (.t 10) (.k (I 1))),none⟩,
    ⟨(some 10),(.mv (.t 25)),none⟩]))))
theorem w44L0 {x : Cx} {Q : QT} {ks : List Kont} {fr : Fr} {H : AHeap} {ms : List Nat} : W x Q c44L0 ks fr H ms = W x Q (.seq (.ops [⟨(some 11),(.bin .lss (.t 10) (.t 9)),none⟩])
    (.seq (.cond (.t 11)
      .skip
      (.exit 0))
    (.seq (.block 1 (.seq (.ops [⟨(some 12),(.ixS 1 (.t 8) (.t 10)),none⟩,
      ⟨(some 13),(.load false 1 (.t 12)),none⟩,
      ⟨(some 7),(.mv (.t 13)),none⟩])
    (.seq (.seq (.ops [⟨(some 14),(.mv (.t 7)),none⟩,
      ⟨(some 15),(.bin .lss (.t 14) (.k (I 0))),none⟩,
      ⟨(some 16),(.mv (.t 15)),none⟩,
      ⟨(some 17),(.mv (.t 7)),(some (16,false))⟩,
      ⟨(some 18),(.mv (.t 1)),(some (16,false))⟩,
      ⟨(some 19),(.bin .geq (.t 17) (.t 18)),(some (16,false))⟩,
      ⟨(some 20),(.pick (.t 16) (.k (B true)) (.t 19)),none⟩])
    (.cond (.t 20)
      (.seq (.ops [⟨(some 4),(.mv (.k (B false))),none⟩])
      .ret)
      .skip))
    (.ops [⟨(some 21),(.mv (.t 5)),none⟩,
      ⟨(some 22),(.mv (.t 7)),none⟩,
      ⟨(some 23),(.bin .shl (.k (I 1)) (.t 22)),none⟩,
      ⟨(some 24),(.bin .or (.t 21) (.t 23)),none⟩,
      ⟨(some 5),(.mv (.t 24)),none⟩]))))
    (.ops [⟨(some 25),(.bin .add (.t 10) (.k (I 1))),none⟩,
      ⟨(some 10),(.mv (.t 25)),none⟩])))) ks fr H ms := rfl
def c44 : ICode :=
  (.seq (.ops [⟨(some 4),(.mv (.k (B false))),none⟩])
  (.seq (.ops [⟨(some 5),(.mv (.k (I 0))),none⟩])
  (.seq (.seq (.ops [⟨(some 8),(.mv (.t 0)),none⟩,
    ⟨(some 9),(.len (.t 8)),none⟩,
    ⟨(some 10),(.mv (.k (I 0))),none⟩])
  (.block 0 (.loop c44L0)))
  c44T1)))
theorem w44 {x : Cx} {Q : QT} {ks : List Kont} {fr : Fr} {H : AHeap} {ms : List Nat} : W x Q c44 ks fr H ms = W x Q (.seq (.ops [⟨(some 4),(.mv (.k (B false))),none⟩])
    (.seq (.ops [⟨(some 5),(.mv (.k (I 0))),none⟩])
    (.seq (.seq (.ops [⟨(some 8),(.mv (.t 0)),none⟩,
      ⟨(some 9),(.len (.t 8)),none⟩,
      ⟨(some 10),(.mv (.k (I 0))),none⟩])
    (.block 0 (.loop c44L0)))
    c44T1))) ks fr H ms := rfl
def r44 : List IRes := [(.tmp 4)]
theorem t44 : Try.f44.body.bind (trCode Try.prog Try.f44.ntmps) = some (strip c44) := by kernel_rfl
theorem q44 : trRes Try.prog Try.f44.results.toList = some r44 := by kernel_rfl
theorem fn44 : Try.prog.funcs[44]? = some Try.f44 := by kernel_rfl
theorem nn44 : (Try.f44.name == "runtime.NumGoroutine") = false := by kernel_rfl
theorem nt44 : Try.f44.ntmps = 37 := by kernel_rfl
def c18 : ICode :=
  (.seq (.ops [⟨(some 1),(.box (.t 0)),none⟩,
    ⟨(some 2),(.mv (.k (B false))),none⟩])
  (.seq (.ops [⟨(some 3),(.load false 1 (.t 1)),none⟩,
    ⟨(some 4),(.len (.t 3)),none⟩,
    ⟨(some 5),(.bin .geq (.t 4) (.k (I 1))),none⟩,
    ⟨(some 6),(.mv (.t 5)),none⟩,
    ⟨(some 7),(.load false 1 (.t 1)),(some (6,true))⟩,
    ⟨(some 8),(.len (.t 7)),(some (6,true))⟩,
    ⟨(some 9),(.bin .leq (.t 8) (.k (I 6))),(some (6,true))⟩,
    ⟨(some 10),(.pick (.t 6) (.t 9) (.k (B false))),none⟩,
    ⟨(some 11),(.mv (.t 10)),none⟩,
    ⟨(some 12),(.load false 1 (.t 1)),(some (11,true))⟩,
    ⟨(some 13),(.mkfn (.func 43) [] [(.t 1)]),(some (11,true))⟩,
    ⟨(some 14),(.call (.k (.fn (.func 42) [] [])) [(.t 12),(.t 13)]),(some (11,true))⟩,
    ⟨(some 15),(.un .not (.t 14)),(some (11,true))⟩,
    ⟨(some 16),(.pick (.t 11) (.t 15) (.k (B false))),none⟩,
    ⟨(some 2),(.mv (.t 16)),none⟩])
  .ret))
theorem w18 {x : Cx} {Q : QT} {ks : List Kont} {fr : Fr} {H : AHeap} {ms : List Nat} : W x Q c18 ks fr H ms = W x Q (.seq (.ops [⟨(some 1),(.box (.t 0)),none⟩,
      ⟨(some 2),(.mv (.k (B false))),none⟩])
    (.seq (.ops [⟨(some 3),(.load false 1 (.t 1)),none⟩,
      ⟨(some 4),(.len (.t 3)),none⟩,
      ⟨(some 5),(.bin .geq (.t 4) (.k (I 1))),none⟩,
      ⟨(some 6),(.mv (.t 5)),none⟩,
      ⟨(some 7),(.load false 1 (.t 1)),(some (6,true))⟩,
      ⟨(some 8),(.len (.t 7)),(some (6,true))⟩,
      ⟨(some 9),(.bin .leq (.t 8) (.k (I 6))),(some (6,true))⟩,
      ⟨(some 10),(.pick (.t 6) (.t 9) (.k (B false))),none⟩,
      ⟨(some 11),(.mv (.t 10)),none⟩,
      ⟨(some 12),(.load false 1 (.t 1)),(some (11,true))⟩,
      ⟨(some 13),(.mkfn (.func 43) [] [(.t 1)]),(some (11,true))⟩,
      ⟨(some 14),(.call (.k (.fn (.func 42) [] [])) [(.t 12),(.t 13)]),(some (11,true))⟩,
      ⟨(some 15),(.un .not (.t 14)),(some (11,true))⟩,
      ⟨(some 16),(.pick (.t 11) (.t 15) (.k (B false))),none⟩,
      ⟨(some 2),(.mv (.t 16)),none⟩])
    .ret)) ks fr H ms := rfl
def r18 : List IRes := [(.tmp 2)]
theorem t18 : Try.f18.body.bind (trCode Try.prog Try.f18.ntmps) = some (strip c18) := by kernel_rfl
theorem q18 : trRes Try.prog Try.f18.results.toList = some r18 := by kernel_rfl
theorem fn18 : Try.prog.funcs[18]? = some Try.f18 := by kernel_rfl
theorem nn18 : (Try.f18.name == "runtime.NumGoroutine") = false := by kernel_rfl
theorem nt18 : Try.f18.ntmps = 17 := by kernel_rfl
def c42 : ICode :=
  (.seq (.ops [⟨(some 4),(.mv (.k (B false))),none⟩])
  (.seq (.ops [⟨(some 5),(.mv (.t 0)),none⟩,
    ⟨(some 6),(.mv (.t 1)),none⟩,
    ⟨(some 7),(.call (.k (.fn (.func 68) [] [])) [(.t 5),(.t 6)]),none⟩,
    ⟨(some 8),(.bin .geq (.t 7) (.k (I 0))),none⟩,
    ⟨(some 4),(.mv (.t 8)),none⟩])
  .ret))
theorem w42 {x : Cx} {Q : QT} {ks : List Kont} {fr : Fr} {H : AHeap} {ms : List Nat} : W x Q c42 ks fr H ms = W x Q (.seq (.ops [⟨(some 4),(.mv (.k (B false))),none⟩])
    (.seq (.ops [⟨(some 5),(.mv (.t 0)),none⟩,
      ⟨(some 6),(.mv (.t 1)),none⟩,
      ⟨(some 7),(.call (.k (.fn (.func 68) [] [])) [(.t 5),(.t 6)]),none⟩,
      ⟨(some 8),(.bin .geq (.t 7) (.k (I 0))),none⟩,
      ⟨(some 4),(.mv (.t 8)),none⟩])
    .ret)) ks fr H ms := rfl
def r42 : List IRes := [(.tmp 4)]
theorem t42 : Try.f42.body.bind (trCode Try.prog Try.f42.ntmps) = some (strip c42) := by kernel_rfl
theorem q42 : trRes Try.prog Try.f42.results.toList = some r42 := by kernel_rfl
theorem fn42 : Try.prog.funcs[42]? = some Try.f42 := by kernel_rfl
theorem nn42 : (Try.f42.name == "runtime.NumGoroutine") = false := by kernel_rfl
theorem nt42 : Try.f42.ntmps = 9 := by kernel_rfl
def c43 : ICode :=
  (.seq (.ops [⟨(some 3),(.mv (.k (B false))),none⟩])
  (.seq (.ops [⟨(some 4),(.mv (.t 0)),none⟩,
    ⟨(some 5),(.load false 1 (.t 1)),none⟩,
    ⟨(some 6),(.len (.t 5)),none⟩,
    ⟨(some 7),(.call (.k (.fn (.func 44) [] [])) [(.t 4),(.t 6)]),none⟩,
    ⟨(some 8),(.un .not (.t 7)),none⟩,
    ⟨(some 3),(.mv (.t 8)),none⟩])
  .ret))
theorem w43 {x : Cx} {Q : QT} {ks : List Kont} {fr : Fr} {H : AHeap} {ms : List Nat} : W x Q c43 ks fr H ms = W x Q (.seq (.ops [⟨(some 3),(.mv (.k (B false))),none⟩])
    (.seq (.ops [⟨(some 4),(.mv (.t 0)),none⟩,
      ⟨(some 5),(.load false 1 (.t 1)),none⟩,
      ⟨(some 6),(.len (.t 5)),none⟩,
      ⟨(some 7),(.call (.k (.fn (.func 44) [] [])) [(.t 4),(.t 6)]),none⟩,
      ⟨(some 8),(.un .not (.t 7)),none⟩,
      ⟨(some 3),(.mv (.t 8)),none⟩])
    .ret)) ks fr H ms := rfl
def r43 : List IRes := [(.tmp 3)]
theorem t43 : Try.f43.body.bind (trCode Try.prog Try.f43.ntmps) = some (strip c43) := by kernel_rfl
theorem q43 : trRes Try.prog Try.f43.results.toList = some r43 := by kernel_rfl
theorem fn43 : Try.prog.funcs[43]? = some Try.f43 := by kernel_rfl
theorem nn43 : (Try.f43.name == "runtime.NumGoroutine") = false := by kernel_rfl
theorem nt43 : Try.f43.ntmps = 9 := by kernel_rfl
def c45 : ICode :=
  (.seq (.ops [⟨(some 5),(.box (.t 2)),none⟩,
    ⟨(some 6),(.mv (.k (I 0))),none⟩])
  (.seq (.ops [⟨(some 8),(.mv (.t 0)),none⟩,
    ⟨(some 9),(.mv (.t 1)),none⟩,
    ⟨(some 10),(.ixS 1 (.t 8) (.t 9)),none⟩,
    ⟨(some 11),(.load false 1 (.t 10)),none⟩,
    ⟨(some 12),(.mkfn (.func 70) [] [(.t 5)]),none⟩,
    ⟨(some 13),(.call (.k (.fn (.func 69) [] [])) [(.t 11),(.t 12)]),none⟩,
    ⟨(some 7),(.mv (.t 13)),none⟩])
  (.seq (.ops [⟨(some 14),(.mv (.t 0)),none⟩,
    ⟨(some 15),(.mv (.t 1)),none⟩,
    ⟨(some 16),(.ixS 1 (.t 14) (.t 15)),none⟩,
    ⟨(some 17),(.load false 1 (.t 16)),none⟩,
    ⟨(some 18),(.mv (.t 7)),none⟩,
    ⟨(some 19),(.ixS 1 (.t 17) (.t 18)),none⟩,
    ⟨(some 20),(.load false 1 (.t 19)),none⟩,
    ⟨(some 6),(.mv (.t 20)),none⟩])
  .ret)))
theorem w45 {x : Cx} {Q : QT} {ks : List Kont} {fr : Fr} {H : AHeap} {ms : List Nat} : W x Q c45 ks fr H ms = W x Q (.seq (.ops [⟨(some 5),(.box (.t 2)),none⟩,
      ⟨(some 6),(.mv (.k (I 0))),none⟩])
    (.seq (.ops [⟨(some 8),(.mv (.t 0)),none⟩,
      ⟨(some 9),(.mv (.t 1)),none⟩,
      ⟨(some 10),(.ixS 1 (.t 8) (.t 9)),none⟩,
      ⟨(some 11),(.load false 1 (.t 10)),none⟩,
      ⟨(some 12),(.mkfn (.func 70) [] [(.t 5)]),none⟩,
      ⟨(some 13),(.call (.k (.fn (.func 69) [] [])) [(.t 11),(.t 12)]),none⟩,
      ⟨(some 7),(.mv (.t 13)),none⟩])
    (.seq (.ops [⟨(some 14),(.mv (.t 0)),none⟩,
      ⟨(some 15),(.mv (.t 1)),none⟩,
      ⟨(some 16),(.ixS 1 (.t 14) (.t 15)),none⟩,
      ⟨(some 17),(.load false 1 (.t 16)),none⟩,
      ⟨(some 18),(.mv (.t 7)),none⟩,
      ⟨(some 19),(.ixS 1 (.t 17) (.t 18)),none⟩,
      ⟨(some 20),(.load false 1 (.t 19)),none⟩,
      ⟨(some 6),(.mv (.t 20)),none⟩])
    .ret))) ks fr H ms := rfl
def r45 : List IRes := [(.tmp 6)]
theorem t45 : Try.f45.body.bind (trCode Try.prog Try.f45.ntmps) = some (strip c45) := by kernel_rfl
theorem q45 : trRes Try.prog Try.f45.results.toList = some r45 := by kernel_rfl
theorem fn45 : Try.prog.funcs[45]? = some Try.f45 := by kernel_rfl
theorem nn45 : (Try.f45.name == "runtime.NumGoroutine") = false := by kernel_rfl
theorem nt45 : Try.f45.ntmps = 21 := by kernel_rfl
def c68T1 : ICode :=
  (.keep [] (.seq (.ops [⟨(some 4),(.mv (.k (I (-1)))),none⟩])
  .ret))
theorem w68T1 {x : Cx} {Q : QT} {ks : List Kont} {fr : Fr} {H : AHeap} {ms : List Nat} : W x Q c68T1 ks fr H ms = W x Q (.keep [] (.seq (.ops [⟨(some 4),(.mv (.k (I (-1)))),none⟩])
    .ret)) ks fr H ms := rfl
/- live: [0,1,7,8] -/
def c68L0 : ICode :=
  (.seq (.ops [⟨(some 9),(.bin .lss (.t 8) (.t 7)),none⟩])
  (.seq (.cond (.t 9)
    .skip
    (.exit 0))
  (.seq (.block 1 (.seq (.ops [⟨(some 10),(.mv (.t 8)),none⟩,
    ⟨(some 5),(.mv (.t 10)),none⟩])
  (.seq (.ops [⟨(some 11),(.mv (.t 1)),none⟩,
    ⟨(some 12),(.mv (.t 0)),none⟩,
    ⟨(some 13),(.mv (.t 5)),none⟩,
    ⟨(some 14),(.ixS 1 (.t 12) (.t 13)),none⟩,
    ⟨(some 15),(.load false 1 (.t 14)),none⟩,
    ⟨(some 16),(.call (.t 11) [(.t 15)]),none⟩])
  (.cond (.t 16)
    (.seq (.ops [⟨(some 17),(.mv (.t 5)),none⟩,
      ⟨(some 4),(.mv (.t 17)),none⟩])
    .ret)
    .skip))))
  (.ops [⟨(some 18),(.bin .add (.t 8) (.k (I 1))),none⟩,
    ⟨(some 8),(.mv (.t 18)),none⟩]))))
theorem w68L0 {x : Cx} {Q : QT} {ks : List Kont} {fr : Fr} {H : AHeap} {ms : List Nat} : W x Q c68L0 ks fr H ms = W x Q (.seq (.ops [⟨(some 9),(.bin .lss (.t 8) (.t 7)),none⟩])
    (.seq (.cond (.t 9)
      .skip
      (.exit 0))
    (.seq (.block 1 (.seq (.ops [⟨(some 10),(.mv (.t 8)),none⟩,
      ⟨(some 5),(.mv (.t 10)),none⟩])
    (.seq (.ops [⟨(some 11),(.mv (.t 1)),none⟩,
      ⟨(some 12),(.mv (.t 0)),none⟩,
      ⟨(some 13),(.mv (.t 5)),none⟩,
      ⟨(some 14),(.ixS 1 (.t 12) (.t 13)),none⟩,
      ⟨(some 15),(.load false 1 (.t 14)),none⟩,
      ⟨(some 16),(.call (.t 11) [(.t 15)]),none⟩])
    (.cond (.t 16)
      (.seq (.ops [⟨(some 17),(.mv (.t 5)),none⟩,
        ⟨(some 4),(.mv (.t 17)),none⟩])
      .ret)
      .skip))))
    (.ops [⟨(some 18),(.bin .add (.t 8) (.k (I 1))),none⟩,
      ⟨(some 8),(.mv (.t 18)),none⟩])))) ks fr H ms := rfl
def c68 : ICode :=
  (.seq (.ops [⟨(some 4),(.mv (.k (I 0))),none⟩])
  (.seq (.seq (.ops [⟨(some 6),(.mv (.t 0)),none⟩,
    ⟨(some 7),(.len (.t 6)),none⟩,
    ⟨(some 8),(.mv (.k (I 0))),none⟩])
  (.block 0 (.loop c68L0)))
  c68T1))
theorem w68 {x : Cx} {Q : QT} {ks : List Kont} {fr : Fr} {H : AHeap} {ms : List Nat} : W x Q c68 ks fr H ms = W x Q (.seq (.ops [⟨(some 4),(.mv (.k (I 0))),none⟩])
    (.seq (.seq (.ops [⟨(some 6),(.mv (.t 0)),none⟩,
      ⟨(some 7),(.len (.t 6)),none⟩,
      ⟨(some 8),(.mv (.k (I 0))),none⟩])
    (.block 0 (.loop c68L0)))
    c68T1)) ks fr H ms := rfl
def r68 : List IRes := [(.tmp 4)]
theorem t68 : Try.f68.body.bind (trCode Try.prog Try.f68.ntmps) = some (strip c68) := by kernel_rfl
theorem q68 : trRes Try.prog Try.f68.results.toList = some r68 := by kernel_rfl
theorem fn68 : Try.prog.funcs[68]? = some Try.f68 := by kernel_rfl
theorem nn68 : (Try.f68.name == "runtime.NumGoroutine") = false := by kernel_rfl
theorem nt68 : Try.f68.ntmps = 19 := by kernel_rfl
def c69T1 : ICode :=
  (.keep [] (.seq (.ops [⟨(some 4),(.mv (.k (I (-1)))),none⟩])
  .ret))
theorem w69T1 {x : Cx} {Q : QT} {ks : List Kont} {fr : Fr} {H : AHeap} {ms : List Nat} : W x Q c69T1 ks fr H ms = W x Q (.keep [] (.seq (.ops [⟨(some 4),(.mv (.k (I (-1)))),none⟩])
    .ret)) ks fr H ms := rfl
/- live: [0,1,7,8] -/
def c69L0 : ICode :=
  (.seq (.ops [⟨(some 9),(.bin .lss (.t 8) (.t 7)),none⟩])
  (.seq (.cond (.t 9)
    .skip
    (.exit 0))
  (.seq (.block 1 (.seq (.ops [⟨(some 10),(.mv (.t 8)),none⟩,
    ⟨(some 5),(.mv (.t 10)),none⟩])
  (.seq (.ops [⟨(some 11),(.mv (.t 1)),none⟩,
    ⟨(some 12),(.mv (.t 0)),none⟩,
    ⟨(some 13),(.mv (.t 5)),none⟩,
    ⟨(some 14),(.ixS 1 (.t 12) (.t 13)),none⟩,
    ⟨(some 15),(.load false 1 (.t 14)),none⟩,
    ⟨(some 16),(.call (.t 11) [(.t 15)]),none⟩])
  (.cond (.t 16)
    (.seq (.ops [⟨(some 17),(.mv (.t 5)),none⟩,
      ⟨(some 4),(.mv (.t 17)),none⟩])
    .ret)
    .skip))))
  (.ops [⟨(some 18),(.bin .add (.t 8) (.k (I 1))),none⟩,
    ⟨(some 8),(.mv (.t 18)),none⟩]))))
theorem w69L0 {x : Cx} {Q : QT} {ks : List Kont} {fr : Fr} {H : AHeap} {ms : List Nat} : W x Q c69L0 ks fr H ms = W x Q (.seq (.ops [⟨(some 9),(.bin .lss (.t 8) (.t 7)),none⟩])
    (.seq (.cond (.t 9)
      .skip
      (.exit 0))
    (.seq (.block 1 (.seq (.ops [⟨(some 10),(.mv (.t 8)),none⟩,
      ⟨(some 5),(.mv (.t 10)),none⟩])
    (.seq (.ops [⟨(some 11),(.mv (.t 1)),none⟩,
      ⟨(some 12),(.mv (.t 0)),none⟩,
      ⟨(some 13),(.mv (.t 5)),none⟩,
      ⟨(some 14),(.ixS 1 (.t 12) (.t 13)),none⟩,
      ⟨(some 15),(.load false 1 (.t 14)),none⟩,
      ⟨(some 16),(.call (.t 11) [(.t 15)]),none⟩])
    (.cond (.t 16)
      (.seq (.ops [⟨(some 17),(.mv (.t 5)),none⟩,
        ⟨(some 4),(.mv (.t 17)),none⟩])
      .ret)
      .skip))))
    (.ops [⟨(some 18),(.bin .add (.t 8) (.k (I 1))),none⟩,
      ⟨(some 8),(.mv (.t 18)),none⟩])))) ks fr H ms := rfl
def c69 : ICode :=
  (.seq (.ops [⟨(some 4),(.mv (.k (I 0))),none⟩])
  (.seq (.seq (.ops [⟨(some 6),(.mv (.t 0)),none⟩,
    ⟨(some 7),(.len (.t 6)),none⟩,
    ⟨(some 8),(.mv (.k (I 0))),none⟩])
  (.block 0 (.loop c69L0)))
  c69T1))
theorem w69 {x : Cx} {Q : QT} {ks : List Kont} {fr : Fr} {H : AHeap} {ms : List Nat} : W x Q c69 ks fr H ms = W x Q (.seq (.ops [⟨(some 4),(.mv (.k (I 0))),none⟩])
    (.seq (.seq (.ops [⟨(some 6),(.mv (.t 0)),none⟩,
      ⟨(some 7),(.len (.t 6)),none⟩,
      ⟨(some 8),(.mv (.k (I 0))),none⟩])
    (.block 0 (.loop c69L0)))
    c69T1)) ks fr H ms := rfl
def r69 : List IRes := [(.tmp 4)]
theorem t69 : Try.f69.body.bind (trCode Try.prog Try.f69.ntmps) = some (strip c69) := by kernel_rfl
theorem q69 : trRes Try.prog Try.f69.results.toList = some r69 := by kernel_rfl
theorem fn69 : Try.prog.funcs[69]? = some Try.f69 := by kernel_rfl
theorem nn69 : (Try.f69.name == "runtime.NumGoroutine") = false := by kernel_rfl
theorem nt69 : Try.f69.ntmps = 19 := by kernel_rfl
def c70 : ICode :=
  (.seq (.ops [⟨(some 3),(.mv (.k (B false))),none⟩])
  (.seq (.ops [⟨(some 4),(.load false 1 (.t 1)),none⟩,
    ⟨(some 5),(.mv (.t 0)),none⟩,
    ⟨(some 6),(.bin .shr (.t 4) (.t 5)),none⟩,
    ⟨(some 7),(.bin .and (.t 6) (.k (I 1))),none⟩,
    ⟨(some 8),(.bin .eql (.t 7) (.k (I 1))),none⟩,
    ⟨(some 3),(.mv (.t 8)),none⟩])
  .ret))
theorem w70 {x : Cx} {Q : QT} {ks : List Kont} {fr : Fr} {H : AHeap} {ms : List Nat} : W x Q c70 ks fr H ms = W x Q (.seq (.ops [⟨(some 3),(.mv (.k (B false))),none⟩])
    (.seq (.ops [⟨(some 4),(.load false 1 (.t 1)),none⟩,
      ⟨(some 5),(.mv (.t 0)),none⟩,
      ⟨(some 6),(.bin .shr (.t 4) (.t 5)),none⟩,
      ⟨(some 7),(.bin .and (.t 6) (.k (I 1))),none⟩,
      ⟨(some 8),(.bin .eql (.t 7) (.k (I 1))),none⟩,
      ⟨(some 3),(.mv (.t 8)),none⟩])
    .ret)) ks fr H ms := rfl
def r70 : List IRes := [(.tmp 3)]
theorem t70 : Try.f70.body.bind (trCode Try.prog Try.f70.ntmps) = some (strip c70) := by kernel_rfl
theorem q70 : trRes Try.prog Try.f70.results.toList = some r70 := by kernel_rfl
theorem fn70 : Try.prog.funcs[70]? = some Try.f70 := by kernel_rfl
theorem nn70 : (Try.f70.name == "runtime.NumGoroutine") = false := by kernel_rfl
theorem nt70 : Try.f70.ntmps = 9 := by kernel_rfl
/- live: [3,6,7,8] -/
def c7 : ICode :=
  (.seq (.ops [⟨(some 2),(.mv (.k nilSl)),none⟩,
    ⟨(some 3),(.mv (.k (I 0))),none⟩])
  (.seq (.seq (.ops [⟨(some 6),(.mv (.t 0)),none⟩,
    ⟨(some 7),(.call (.k (.fn (.func 18) [] [])) [(.t 6)]),none⟩,
    ⟨(some 8),(.un .not (.t 7)),none⟩])
  (.cond (.t 8)
    (.seq (.ops [⟨(some 2),(.mv (.k nilSl)),none⟩,
      ⟨(some 3),(.mv (.k (I 2))),none⟩])
    .ret)
    .skip))
  (.seq (.ops [⟨(some 10),(.mv (.t 0)),none⟩,
    ⟨(some 11),(.call (.k (.fn (.func 19) [] [])) [(.t 10)]),none⟩,
    ⟨(some 9),(.mv (.t 11)),none⟩,
    ⟨(some 12),(.ext (.t 9) 0),none⟩,
    ⟨(some 13),(.ext (.t 9) 1),none⟩,
    ⟨(some 4),(.mv (.t 12)),none⟩,
    ⟨(some 5),(.mv (.t 13)),none⟩])
  (.seq (.ops [⟨(some 14),(.mv (.t 5)),none⟩,
    ⟨(some 2),(.mv (.t 14)),none⟩,
    ⟨(some 3),(.mv (.k (I 0))),none⟩])
  .ret))))
theorem w7 {x : Cx} {Q : QT} {ks : List Kont} {fr : Fr} {H : AHeap} {ms : List Nat} : W x Q c7 ks fr H ms = W x Q (.seq (.ops [⟨(some 2),(.mv (.k nilSl)),none⟩,
      ⟨(some 3),(.mv (.k (I 0))),none⟩])
    (.seq (.seq (.ops [⟨(some 6),(.mv (.t 0)),none⟩,
      ⟨(some 7),(.call (.k (.fn (.func 18) [] [])) [(.t 6)]),none⟩,
      ⟨(some 8),(.un .not (.t 7)),none⟩])
    (.cond (.t 8)
      (.seq (.ops [⟨(some 2),(.mv (.k nilSl)),none⟩,
        ⟨(some 3),(.mv (.k (I 2))),none⟩])
      .ret)
      .skip))
    (.seq (.ops [⟨(some 10),(.mv (.t 0)),none⟩,
      ⟨(some 11),(.call (.k (.fn (.func 19) [] [])) [(.t 10)]),none⟩,
      ⟨(some 9),(.mv (.t 11)),none⟩,
      ⟨(some 12),(.ext (.t 9) 0),none⟩,
      ⟨(some 13),(.ext (.t 9) 1),none⟩,
      ⟨(some 4),(.mv (.t 12)),none⟩,
      ⟨(some 5),(.mv (.t 13)),none⟩])
    (.seq (.ops [⟨(some 14),(.mv (.t 5)),none⟩,
      ⟨(some 2),(.mv (.t 14)),none⟩,
      ⟨(some 3),(.mv (.k (I 0))),none⟩])
    .ret)))) ks fr H ms := rfl
def r7 : List IRes := [(.tmp 2),(.tmp 3)]
theorem t7 : Try.f7.body.bind (trCode Try.prog Try.f7.ntmps) = some (strip c7) := by kernel_rfl
theorem q7 : trRes Try.prog Try.f7.results.toList = some r7 := by kernel_rfl
theorem fn7 : Try.prog.funcs[7]? = some Try.f7 := by kernel_rfl
theorem nn7 : (Try.f7.name == "runtime.NumGoroutine") = false := by kernel_rfl
theorem nt7 : Try.f7.ntmps = 15 := by kernel_rfl
def c8T1 : ICode :=
  (.keep [0] (.seq (.ops [⟨(some 17),(.mv (.t 0)),none⟩,
    ⟨(some 18),(.len (.t 17)),none⟩,
    ⟨(some 19),(.bin .geq (.t 18) (.k (I 1))),none⟩,
    ⟨(some 20),(.mv (.t 19)),none⟩,
    ⟨(some 21),(.mv (.t 0)),(some (20,true))⟩,
    ⟨(some 22),(.len (.t 21)),(some (20,true))⟩,
    ⟨(some 23),(.bin .leq (.t 22) (.k (I 6))),(some (20,true))⟩,
    ⟨(some 24),(.pick (.t 20) (.t 23) (.k (B false))),none⟩,
    ⟨(some 2),(.mv (.t 24)),none⟩])
  .ret))
theorem w8T1 {x : Cx} {Q : QT} {ks : List Kont} {fr : Fr} {H : AHeap} {ms : List Nat} : W x Q c8T1 ks fr H ms = W x Q (.keep [0] (.seq (.ops [⟨(some 17),(.mv (.t 0)),none⟩,
      ⟨(some 18),(.len (.t 17)),none⟩,
      ⟨(some 19),(.bin .geq (.t 18) (.k (I 1))),none⟩,
      ⟨(some 20),(.mv (.t 19)),none⟩,
      ⟨(some 21),(.mv (.t 0)),(some (20,true))⟩,
      ⟨(some 22),(.len (.t 21)),(some (20,true))⟩,
      ⟨(some 23),(.bin .leq (.t 22) (.k (I 6))),(some (20,true))⟩,
      ⟨(some 24),(.pick (.t 20) (.t 23) (.k (B false))),none⟩,
      ⟨(some 2),(.mv (.t 24)),none⟩])
    .ret)) ks fr H ms := rfl
/- live: [0,5,6,7] -/
def c8L0 : ICode :=
  (.seq (.ops [⟨(some 8),(.bin .lss (.t 7) (.t 6)),none⟩])
  (.seq (.cond (.t 8)
    .skip
    (.exit 0))
  (.seq (.block 1 (.seq (.ops [⟨(some 9),(.ixS 1 (.t 5) (.t 7)),none⟩,
    ⟨(some 10),(.load false 1 (.t 9)),none⟩,
    ⟨(some 4),(.mv (.t 10)),none⟩])
  (.seq (.ops [⟨(some 11),(.mv (.t 4)),none⟩,
    ⟨(some 12),(.mv (.t 0)),none⟩,
    ⟨(some 13),(.len (.t 12)),none⟩,
    ⟨(some 14),(.call (.k (.fn (.func 20) [] [])) [(.t 11),(.t 13)]),none⟩,
    ⟨(some 15),(.un .not (.t 14)),none⟩])
  (.cond (.t 15)
    (.seq (.ops [⟨(some 2),(.mv (.k (B false))),none⟩])
    .ret)
    .skip))))
  (.ops [⟨(some 16),(.bin .add (.t 7) (.k (I 1))),none⟩,
    ⟨(some 7),(.mv (.t 16)),none⟩]))))
theorem w8L0 {x : Cx} {Q : QT} {ks : List Kont} {fr : Fr} {H : AHeap} {ms : List Nat} : W x Q c8L0 ks fr H ms = W x Q (.seq (.ops [⟨(some 8),(.bin .lss (.t 7) (.t 6)),none⟩])
    (.seq (.cond (.t 8)
      .skip
      (.exit 0))
    (.seq (.block 1 (.seq (.ops [⟨(some 9),(.ixS 1 (.t 5) (.t 7)),none⟩,
      ⟨(some 10),(.load false 1 (.t 9)),none⟩,
      ⟨(some 4),(.mv (.t 10)),none⟩])
    (.seq (.ops [⟨(some 11),(.mv (.t 4)),none⟩,
      ⟨(some 12),(.mv (.t 0)),none⟩,
      ⟨(some 13),(.len (.t 12)),none⟩,
      ⟨(some 14),(.call (.k (.fn (.func 20) [] [])) [(.t 11),(.t 13)]),none⟩,
      ⟨(some 15),(.un .not (.t 14)),none⟩])
    (.cond (.t 15)
      (.seq (.ops [⟨(some 2),(.mv (.k (B false))),none⟩])
      .ret)
      .skip))))
    (.ops [⟨(some 16),(.bin .add (.t 7) (.k (I 1))),none⟩,
      ⟨(some 7),(.mv (.t 16)),none⟩])))) ks fr H ms := rfl
def c8 : ICode :=
  (.seq (.ops [⟨(some 2),(.mv (.k (B false))),none⟩])
  (.seq (.seq (.ops [⟨(some 5),(.mv (.t 0)),none⟩,
    ⟨(some 6),(.len (.t 5)),none⟩,
    ⟨(some 7),(.mv (.k (I 0))),none⟩])
  (.block 0 (.loop c8L0)))
  c8T1))
theorem w8 {x : Cx} {Q : QT} {ks : List Kont} {fr : Fr} {H : AHeap} {ms : List Nat} : W x Q c8 ks fr H ms = W x Q (.seq (.ops [⟨(some 2),(.mv (.k (B false))),none⟩])
    (.seq (.seq (.ops [⟨(some 5),(.mv (.t 0)),none⟩,
      ⟨(some 6),(.len (.t 5)),none⟩,
      ⟨(some 7),(.mv (.k (I 0))),none⟩])
    (.block 0 (.loop c8L0)))
    c8T1)) ks fr H ms := rfl
def r8 : List IRes := [(.tmp 2)]
theorem t8 : Try.f8.body.bind (trCode Try.prog Try.f8.ntmps) = some (strip c8) := by kernel_rfl
theorem q8 : trRes Try.prog Try.f8.results.toList = some r8 := by kernel_rfl
theorem fn8 : Try.prog.funcs[8]? = some Try.f8 := by kernel_rfl
theorem nn8 : (Try.f8.name == "runtime.NumGoroutine") = false := by kernel_rfl
theorem nt8 : Try.f8.ntmps = 25 := by kernel_rfl
/- live: [0,1,12,13] -/
def c20T1 : ICode :=
  (.keep [0,1] (.seq (.ops [⟨(some 33),(.mv (.t 0)),none⟩,
    ⟨(some 34),(.len (.t 33)),none⟩,
    ⟨(some 35),(.mv (.t 1)),none⟩,
    ⟨(some 36),(.bin .eql (.t 34) (.t 35)),none⟩,
    ⟨(some 4),(.mv (.t 36)),none⟩])
  .ret))
theorem w20T1 {x : Cx} {Q : QT} {ks : List Kont} {fr : Fr} {H : AHeap} {ms : List Nat} : W x Q c20T1 ks fr H ms = W x Q (.keep [0,1] (.seq (.ops [⟨(some 33),(.mv (.t 0)),none⟩,
      ⟨(some 34),(.len (.t 33)),none⟩,
      ⟨(some 35),(.mv (.t 1)),none⟩,
      ⟨(some 36),(.bin .eql (.t 34) (.t 35)),none⟩,
      ⟨(some 4),(.mv (.t 36)),none⟩])
    .ret)) ks fr H ms := rfl
/- live: [0,1,5,8,9,10] -/
def c20L0 : ICode :=
  (.seq (.ops [⟨(some 11),(.bin .lss (.t 10) (.t 9)),none⟩])
  (.seq (.cond (.t 11)
    .skip
    (.exit 0))
  (.seq (.block 1 (.seq (.ops [⟨(some 12),(.ixS 1 (.t 8) (.t 10)),none⟩,
    ⟨(some 13),(.load false 1 (.t 12)),none⟩,
    ⟨(some 7),(.mv (.t 13)),none⟩])
  (.seq (.seq (.ops [⟨(some 14),(.mv (.t 7)),none⟩,
    ⟨(some 15),(.bin .lss (.t 14) (.k (I 0))),none⟩,
    ⟨(some 16),(.mv (.t 15)),none⟩,
    ⟨(some 17),(.mv (.t 7)),(some (16,false))⟩,
    ⟨(some 18),(.mv (.t 1)),(some (16,false))⟩,
    ⟨(some 19),(.bin .geq (.t 17) (.t 18)),(some (16,false))⟩,
    ⟨(some 20),(.pick (.t 16) (.k (B true)) (.t 19)),none⟩,
    ⟨(some 21),(.mv (.t 20)),none⟩,
    ⟨(some 22),(.mv (.t 5)),(some (21,false))⟩,
    ⟨(some 23),(.mv (.t 7)),(some (21,false))⟩,
    ⟨(some 24),(.bin .shr (.t 22) (.t 23)),(some (21,false))⟩,
    ⟨(some 25),(.bin .and (.t 24) (.k (I 1))),(some (21,false))⟩,
    ⟨(some 26),(.bin .eql (.t 25) (.k (I 1))),(some (21,false))⟩,
    ⟨(some 27),(.pick (.t 21) (.k (B true)) (.t 26)),none⟩])
  (.cond (.t 27)
    (.seq (.ops [⟨(some 4),(.mv (.k (B false))),none⟩])
    .ret)
    .skip))
  (.ops [⟨(some 28),(.mv (.t 5)),none⟩,
    ⟨(some 29),(.mv (.t 7)),none⟩,
    ⟨(some 30),(.bin .shl (.k (I 1)) (.t 29)),none⟩,
    ⟨(some 31),(.bin .or (.t 28) (.t 30)),none⟩,
    ⟨(some 5),(.mv (.t 31)),none⟩]))))
  (.ops [⟨(some 32),(.bin .add (.t 10) (.k (I 1))),none⟩,
    ⟨(some 10),(.mv (.t 32)),none⟩]))))
theorem w20L0 {x : Cx} {Q : QT} {ks : List Kont} {fr : Fr} {H : AHeap} {ms : List Nat} : W x Q c20L0 ks fr H ms = W x Q (.seq (.ops [⟨(some 11),(.bin .lss (.t 10) (.t 9)),none⟩])
    (.seq (.cond (.t 11)
      .skip
      (.exit 0))
    (.seq (.block 1 (.seq (.ops [⟨(some 12),(.ixS 1 (.t 8) (.t 10)),none⟩,
      ⟨(some 13),(.load false 1 (.t 12)),none⟩,
      ⟨(some 7),(.mv (.t 13)),none⟩])
    (.seq (.seq (.ops [⟨(some 14),(.mv (.t 7)),none⟩,
      ⟨(some 15),(.bin .lss (.t 14) (.k (I 0))),none⟩,
      ⟨(some 16),(.mv (.t 15)),none⟩,
      ⟨(some 17),(.mv (.t 7)),(some (16,false))⟩,
      ⟨(some 18),(.mv (.t 1)),(some (16,false))⟩,
      ⟨(some 19),(.bin .geq (.t 17) (.t 18)),(some (16,false))⟩,
      ⟨(some 20),(.pick (.t 16) (.k (B true)) (.t 19)),none⟩,
      ⟨(some 21),(.mv (.t 20)),none⟩,
      ⟨(some 22),(.mv (.t 5)),(some (21,false))⟩,
      ⟨(some 23),(.mv (.t 7)),(some (21,false))⟩,
      ⟨(some 24),(.bin .shr (.t 22) (.t 23)),(some (21,false))⟩,
      ⟨(some 25),(.bin .and (.t 24) (.k (I 1))),(some (21,false))⟩,
      ⟨(some 26),(.bin .eql (.t 25) (.k (I 1))),(some (21,false))⟩,
      ⟨(some 27),(.pick (.t 21) (.k (B true)) (.t 26)),none⟩])
    (.cond (.t 27)
      (.seq (.ops [⟨(some 4),(.mv (.k (B false))),none⟩])
      .ret)
      .skip))
    (.ops [⟨(some 28),(.mv (.t 5)),none⟩,
      ⟨(some 29),(.mv (.t 7)),none⟩,
      ⟨(some 30),(.bin .shl (.k (I 1)) (.t 29)),none⟩,
      ⟨(some 31),(.bin .or (.t 28) (.t 30)),none⟩,
      ⟨(some 5),(.mv (.t 31)),none⟩]))))
    (.ops [⟨(some 32),(.bin .add (.t 10) (.k (I 1))),none⟩,
      ⟨(some 10),(.mv (.t 32)),none⟩])))) ks fr H ms := rfl
def c20 : ICode :=
  (.seq (.ops [⟨(some 4),(.mv (.k (B false))),none⟩])
  (.seq (.ops [⟨(some 5),(.mv (.k (I 0))),none⟩])
  (.seq (.seq (.ops [⟨(some 8),(.mv (.t 0)),none⟩,
    ⟨(some 9),(.len (.t 8)),none⟩,
    ⟨(some 10),(.mv (.k (I 0))),none⟩])
  (.block 0 (.loop c20L0)))
  c20T1)))
theorem w20 {x : Cx} {Q : QT} {ks : List Kont} {fr : Fr} {H : AHeap} {ms : List Nat} : W x Q c20 ks fr H ms = W x Q (.seq (.ops [⟨(some 4),(.mv (.k (B false))),none⟩])
    (.seq (.ops [⟨(some 5),(.mv (.k (I 0))),none⟩])
    (.seq (.seq (.ops [⟨(some 8),(.mv (.t 0)),none⟩,
      ⟨(some 9),(.len (.t 8)),none⟩,
      ⟨(some 10),(.mv (.k (I 0))),none⟩])
    (.block 0 (.loop c20L0)))
    c20T1))) ks fr H ms := rfl
def r20 : List IRes := [(.tmp 4)]
theorem t20 : Try.f20.body.bind (trCode Try.prog Try.f20.ntmps) = some (strip c20) := by kernel_rfl
theorem q20 : trRes Try.prog Try.f20.results.toList = some r20 := by kernel_rfl
theorem fn20 : Try.prog.funcs[20]? = some Try.f20 := by kernel_rfl
theorem nn20 : (Try.f20.name == "runtime.NumGoroutine") = false := by kernel_rfl
theorem nt20 : Try.f20.ntmps = 37 := by kernel_rfl
def c19T7 : ICode :=
  (.keep [2,3] (.seq (.ops [⟨(some 69),(.mv (.t 2)),none⟩,
    ⟨(some 70),(.mv (.t 3)),none⟩,
    ⟨(some 2),(.mv (.t 69)),none⟩,
    ⟨(some 3),(.mv (.t 70)),none⟩])
  .ret))
theorem w19T7 {x : Cx} {Q : QT} {ks : List Kont} {fr : Fr} {H : AHeap} {ms : List Nat} : W x Q c19T7 ks fr H ms = W x Q (.keep [2,3] (.seq (.ops [⟨(some 69),(.mv (.t 2)),none⟩,
      ⟨(some 70),(.mv (.t 3)),none⟩,
      ⟨(some 2),(.mv (.t 69)),none⟩,
      ⟨(some 3),(.mv (.t 70)),none⟩])
    .ret)) ks fr H ms := rfl
def c19T6 : ICode :=
  (.keep [0,2,3,4,5,6] (.ops [⟨(some 21),(.mv (.t 6)),none⟩,
    ⟨(some 22),(.bin .add (.t 21) (.k (I 1))),none⟩,
    ⟨(some 6),(.mv (.t 22)),none⟩]))
theorem w19T6 {x : Cx} {Q : QT} {ks : List Kont} {fr : Fr} {H : AHeap} {ms : List Nat} : W x Q c19T6 ks fr H ms = W x Q (.keep [0,2,3,4,5,6] (.ops [⟨(some 21),(.mv (.t 6)),none⟩,
      ⟨(some 22),(.bin .add (.t 21) (.k (I 1))),none⟩,
      ⟨(some 6),(.mv (.t 22)),none⟩])) ks fr H ms := rfl
def c19T5 : ICode :=
  (.keep [0,2,3,4,5,6,7] (.ops [⟨(some 66),(.mv (.t 5)),none⟩,
    ⟨(some 67),(.mv (.t 7)),none⟩,
    ⟨(some 68),(.bin .andNot (.t 66) (.t 67)),none⟩,
    ⟨(some 5),(.mv (.t 68)),none⟩]))
theorem w19T5 {x : Cx} {Q : QT} {ks : List Kont} {fr : Fr} {H : AHeap} {ms : List Nat} : W x Q c19T5 ks fr H ms = W x Q (.keep [0,2,3,4,5,6,7] (.ops [⟨(some 66),(.mv (.t 5)),none⟩,
      ⟨(some 67),(.mv (.t 7)),none⟩,
      ⟨(some 68),(.bin .andNot (.t 66) (.t 67)),none⟩,
      ⟨(some 5),(.mv (.t 68)),none⟩])) ks fr H ms := rfl
def c19T4 : ICode :=
  (.keep [0,2,3,4,5,6,7,23,24] (.ops [⟨(some 65),(.bin .add (.t 24) (.k (I 1))),none⟩,
    ⟨(some 24),(.mv (.t 65)),none⟩]))
theorem w19T4 {x : Cx} {Q : QT} {ks : List Kont} {fr : Fr} {H : AHeap} {ms : List Nat} : W x Q c19T4 ks fr H ms = W x Q (.keep [0,2,3,4,5,6,7,23,24] (.ops [⟨(some 65),(.bin .add (.t 24) (.k (I 1))),none⟩,
      ⟨(some 24),(.mv (.t 65)),none⟩])) ks fr H ms := rfl
def c19T3 : ICode :=
  (.keep [0,2,3,4,5,6,7,8,9,23,24] (.seq (.ops [⟨(some 47),(.mv (.t 9)),none⟩,
    ⟨(some 48),(.mv (.t 8)),none⟩,
    ⟨(some 49),(.bin .eql (.t 47) (.t 48)),none⟩])
  (.cond (.t 49)
    (.seq (.ops [⟨(some 50),(.mv (.t 2)),none⟩,
      ⟨(some 51),(.mv (.t 8)),none⟩,
      ⟨(some 52),(.mv (.t 3)),none⟩,
      ⟨(some 53),(.mv (.t 8)),none⟩,
      ⟨(some 54),(.mv (.t 0)),none⟩,
      ⟨(some 55),(.mv (.t 8)),none⟩,
      ⟨(some 56),(.mv (.t 5)),none⟩,
      ⟨(some 57),(.call (.k (.fn (.func 45) [] [])) [(.t 54),(.t 55),(.t 56)]),none⟩,
      ⟨(some 58),(.mv (.t 6)),none⟩,
      ⟨(some 59),(.ixS 1 (.t 50) (.t 51)),none⟩,
      ⟨none,(.store 1 (.t 59) (.t 57)),none⟩,
      ⟨(some 60),(.ixS 1 (.t 52) (.t 53)),none⟩,
      ⟨none,(.store 1 (.t 60) (.t 58)),none⟩])
    (.ops [⟨(some 61),(.mv (.t 7)),none⟩,
      ⟨(some 62),(.mv (.t 8)),none⟩,
      ⟨(some 63),(.bin .shl (.k (I 1)) (.t 62)),none⟩,
      ⟨(some 64),(.bin .or (.t 61) (.t 63)),none⟩,
      ⟨(some 7),(.mv (.t 64)),none⟩]))
    .skip)))
theorem w19T3 {x : Cx} {Q : QT} {ks : List Kont} {fr : Fr} {H : AHeap} {ms : List Nat} : W x Q c19T3 ks fr H ms = W x Q (.keep [0,2,3,4,5,6,7,8,9,23,24] (.seq (.ops [⟨(some 47),(.mv (.t 9)),none⟩,
      ⟨(some 48),(.mv (.t 8)),none⟩,
      ⟨(some 49),(.bin .eql (.t 47) (.t 48)),none⟩])
    (.cond (.t 49)
      (.seq (.ops [⟨(some 50),(.mv (.t 2)),none⟩,
        ⟨(some 51),(.mv (.t 8)),none⟩,
        ⟨(some 52),(.mv (.t 3)),none⟩,
        ⟨(some 53),(.mv (.t 8)),none⟩,
        ⟨(some 54),(.mv (.t 0)),none⟩,
        ⟨(some 55),(.mv (.t 8)),none⟩,
        ⟨(some 56),(.mv (.t 5)),none⟩,
        ⟨(some 57),(.call (.k (.fn (.func 45) [] [])) [(.t 54),(.t 55),(.t 56)]),none⟩,
        ⟨(some 58),(.mv (.t 6)),none⟩,
        ⟨(some 59),(.ixS 1 (.t 50) (.t 51)),none⟩,
        ⟨none,(.store 1 (.t 59) (.t 57)),none⟩,
        ⟨(some 60),(.ixS 1 (.t 52) (.t 53)),none⟩,
        ⟨none,(.store 1 (.t 60) (.t 58)),none⟩])
      (.ops [⟨(some 61),(.mv (.t 7)),none⟩,
        ⟨(some 62),(.mv (.t 8)),none⟩,
        ⟨(some 63),(.bin .shl (.k (I 1)) (.t 62)),none⟩,
        ⟨(some 64),(.bin .or (.t 61) (.t 63)),none⟩,
        ⟨(some 7),(.mv (.t 64)),none⟩]))
      .skip))) ks fr H ms := rfl
/- live: [0,2,3,4,5,6,7,8,9,23,24,36,37] -/
def c19L2 : ICode :=
  (.seq (.ops [⟨(some 38),(.bin .lss (.t 37) (.t 36)),none⟩])
  (.seq (.cond (.t 38)
    .skip
    (.exit 4))
  (.seq (.block 5 (.seq (.seq (.ops [⟨(some 39),(.mv (.t 9)),none⟩,
    ⟨(some 40),(.mv (.t 8)),none⟩,
    ⟨(some 41),(.bin .eql (.t 39) (.t 40)),none⟩])
  (.cond (.t 41)
    (.exit 4)
    .skip))
  (.ops [⟨(some 42),(.mv (.t 0)),none⟩,
    ⟨(some 43),(.mv (.t 9)),none⟩,
    ⟨(some 44),(.mv (.t 5)),none⟩,
    ⟨(some 45),(.call (.k (.fn (.func 45) [] [])) [(.t 42),(.t 43),(.t 44)]),none⟩,
    ⟨(some 9),(.mv (.t 45)),none⟩])))
  (.ops [⟨(some 46),(.bin .add (.t 37) (.k (I 1))),none⟩,
    ⟨(some 37),(.mv (.t 46)),none⟩]))))
theorem w19L2 {x : Cx} {Q : QT} {ks : List Kont} {fr : Fr} {H : AHeap} {ms : List Nat} : W x Q c19L2 ks fr H ms = W x Q (.seq (.ops [⟨(some 38),(.bin .lss (.t 37) (.t 36)),none⟩])
    (.seq (.cond (.t 38)
      .skip
      (.exit 4))
    (.seq (.block 5 (.seq (.seq (.ops [⟨(some 39),(.mv (.t 9)),none⟩,
      ⟨(some 40),(.mv (.t 8)),none⟩,
      ⟨(some 41),(.bin .eql (.t 39) (.t 40)),none⟩])
    (.cond (.t 41)
      (.exit 4)
      .skip))
    (.ops [⟨(some 42),(.mv (.t 0)),none⟩,
      ⟨(some 43),(.mv (.t 9)),none⟩,
      ⟨(some 44),(.mv (.t 5)),none⟩,
      ⟨(some 45),(.call (.k (.fn (.func 45) [] [])) [(.t 42),(.t 43),(.t 44)]),none⟩,
      ⟨(some 9),(.mv (.t 45)),none⟩])))
    (.ops [⟨(some 46),(.bin .add (.t 37) (.k (I 1))),none⟩,
      ⟨(some 37),(.mv (.t 46)),none⟩])))) ks fr H ms := rfl
/- live: [0,2,3,4,5,6,7,23,24] -/
def c19L1 : ICode :=
  (.seq (.ops [⟨(some 25),(.bin .lss (.t 24) (.t 23)),none⟩])
  (.seq (.cond (.t 25)
    .skip
    (.exit 2))
  (.seq (.block 3 (.seq (.ops [⟨(some 26),(.mv (.t 24)),none⟩,
    ⟨(some 8),(.mv (.t 26)),none⟩])
  (.seq (.seq (.ops [⟨(some 27),(.mv (.t 5)),none⟩,
    ⟨(some 28),(.mv (.t 8)),none⟩,
    ⟨(some 29),(.bin .shr (.t 27) (.t 28)),none⟩,
    ⟨(some 30),(.bin .and (.t 29) (.k (I 1))),none⟩,
    ⟨(some 31),(.bin .eql (.t 30) (.k (I 0))),none⟩])
  (.cond (.t 31)
    (.exit 3)
    .skip))
  (.seq (.ops [⟨(some 32),(.mv (.t 0)),none⟩,
    ⟨(some 33),(.mv (.t 8)),none⟩,
    ⟨(some 34),(.mv (.t 5)),none⟩,
    ⟨(some 35),(.call (.k (.fn (.func 45) [] [])) [(.t 32),(.t 33),(.t 34)]),none⟩,
    ⟨(some 9),(.mv (.t 35)),none⟩])
  (.seq (.seq (.ops [⟨(some 36),(.mv (.t 4)),none⟩,
    ⟨(some 37),(.mv (.k (I 0))),none⟩])
  (.block 4 (.loop c19L2)))
  c19T3)))))
  c19T4)))
theorem w19L1 {x : Cx} {Q : QT} {ks : List Kont} {fr : Fr} {H : AHeap} {ms : List Nat} : W x Q c19L1 ks fr H ms = W x Q (.seq (.ops [⟨(some 25),(.bin .lss (.t 24) (.t 23)),none⟩])
    (.seq (.cond (.t 25)
      .skip
      (.exit 2))
    (.seq (.block 3 (.seq (.ops [⟨(some 26),(.mv (.t 24)),none⟩,
      ⟨(some 8),(.mv (.t 26)),none⟩])
    (.seq (.seq (.ops [⟨(some 27),(.mv (.t 5)),none⟩,
      ⟨(some 28),(.mv (.t 8)),none⟩,
      ⟨(some 29),(.bin .shr (.t 27) (.t 28)),none⟩,
      ⟨(some 30),(.bin .and (.t 29) (.k (I 1))),none⟩,
      ⟨(some 31),(.bin .eql (.t 30) (.k (I 0))),none⟩])
    (.cond (.t 31)
      (.exit 3)
      .skip))
    (.seq (.ops [⟨(some 32),(.mv (.t 0)),none⟩,
      ⟨(some 33),(.mv (.t 8)),none⟩,
      ⟨(some 34),(.mv (.t 5)),none⟩,
      ⟨(some 35),(.call (.k (.fn (.func 45) [] [])) [(.t 32),(.t 33),(.t 34)]),none⟩,
      ⟨(some 9),(.mv (.t 35)),none⟩])
    (.seq (.seq (.ops [⟨(some 36),(.mv (.t 4)),none⟩,
      ⟨(some 37),(.mv (.k (I 0))),none⟩])
    (.block 4 (.loop c19L2)))
    c19T3)))))
    c19T4))) ks fr H ms := rfl
/- live: [0,2,3,4,5,6] -/
def c19L0 : ICode :=
  (.seq (.seq (.ops [⟨(some 19),(.mv (.t 5)),none⟩,
    ⟨(some 20),(.bin .neq (.t 19) (.k (I 0))),none⟩])
  (.cond (.t 20)
    .skip
    (.exit 0)))
  (.seq (.block 1 (.seq (.ops [⟨(some 7),(.mv (.k (I 0))),none⟩])
  (.seq (.seq (.ops [⟨(some 23),(.mv (.t 4)),none⟩,
    ⟨(some 24),(.mv (.k (I 0))),none⟩])
  (.block 2 (.loop c19L1)))
  c19T5)))
  c19T6))
theorem w19L0 {x : Cx} {Q : QT} {ks : List Kont} {fr : Fr} {H : AHeap} {ms : List Nat} : W x Q c19L0 ks fr H ms = W x Q (.seq (.seq (.ops [⟨(some 19),(.mv (.t 5)),none⟩,
      ⟨(some 20),(.bin .neq (.t 19) (.k (I 0))),none⟩])
    (.cond (.t 20)
      .skip
      (.exit 0)))
    (.seq (.block 1 (.seq (.ops [⟨(some 7),(.mv (.k (I 0))),none⟩])
    (.seq (.seq (.ops [⟨(some 23),(.mv (.t 4)),none⟩,
      ⟨(some 24),(.mv (.k (I 0))),none⟩])
    (.block 2 (.loop c19L1)))
    c19T5)))
    c19T6)) ks fr H ms := rfl
def c19 : ICode :=
  (.seq (.ops [⟨(some 2),(.mv (.k nilSl)),none⟩,
    ⟨(some 3),(.mv (.k nilSl)),none⟩])
  (.seq (.ops [⟨(some 10),(.mv (.t 0)),none⟩,
    ⟨(some 11),(.len (.t 10)),none⟩,
    ⟨(some 4),(.mv (.t 11)),none⟩])
  (.seq (.draw 2 [] (.early 1 ⟨(some 12),(.mv (.t 4)),none⟩
    (.early 1 ⟨(some 14),(.mv (.t 4)),none⟩
    (.both (.step 0 1 ⟨(some 13),(.mksl 1 8 [(I 0)] (.t 12) (.t 12)),none⟩
      (.early 1 ⟨(some 2),(.mv (.t 13)),none⟩
      (.step 1 1 ⟨(some 15),(.mksl 1 8 [(I 0)] (.t 14) (.t 14)),none⟩
      (.early 0 ⟨(some 3),(.mv (.t 15)),none⟩
      .done))))
    (.step 1 1 ⟨(some 15),(.mksl 1 8 [(I 0)] (.t 14) (.t 14)),none⟩
      (.step 0 1 ⟨(some 13),(.mksl 1 8 [(I 0)] (.t 12) (.t 12)),none⟩
      (.early 1 ⟨(some 2),(.mv (.t 13)),none⟩
      (.early 0 ⟨(some 3),(.mv (.t 15)),none⟩
      .done))))))))
  (.keep [0,2,3,4] (.seq (.seq (.ops [⟨(some 16),(.mv (.t 4)),none⟩,
    ⟨(some 17),(.bin .shl (.k (I 1)) (.t 16)),none⟩,
    ⟨(some 18),(.bin .sub (.t 17) (.k (I 1))),none⟩,
    ⟨(some 5),(.mv (.t 18)),none⟩,
    ⟨(some 6),(.mv (.k (I 1))),none⟩])
  (.block 0 (.loop c19L0)))
  c19T7)))))
theorem w19 {x : Cx} {Q : QT} {ks : List Kont} {fr : Fr} {H : AHeap} {ms : List Nat} : W x Q c19 ks fr H ms = W x Q (.seq (.ops [⟨(some 2),(.mv (.k nilSl)),none⟩,
      ⟨(some 3),(.mv (.k nilSl)),none⟩])
    (.seq (.ops [⟨(some 10),(.mv (.t 0)),none⟩,
      ⟨(some 11),(.len (.t 10)),none⟩,
      ⟨(some 4),(.mv (.t 11)),none⟩])
    (.seq (.draw 2 [] (.early 1 ⟨(some 12),(.mv (.t 4)),none⟩
      (.early 1 ⟨(some 14),(.mv (.t 4)),none⟩
      (.both (.step 0 1 ⟨(some 13),(.mksl 1 8 [(I 0)] (.t 12) (.t 12)),none⟩
        (.early 1 ⟨(some 2),(.mv (.t 13)),none⟩
        (.step 1 1 ⟨(some 15),(.mksl 1 8 [(I 0)] (.t 14) (.t 14)),none⟩
        (.early 0 ⟨(some 3),(.mv (.t 15)),none⟩
        .done))))
      (.step 1 1 ⟨(some 15),(.mksl 1 8 [(I 0)] (.t 14) (.t 14)),none⟩
        (.step 0 1 ⟨(some 13),(.mksl 1 8 [(I 0)] (.t 12) (.t 12)),none⟩
        (.early 1 ⟨(some 2),(.mv (.t 13)),none⟩
        (.early 0 ⟨(some 3),(.mv (.t 15)),none⟩
        .done))))))))
    (.keep [0,2,3,4] (.seq (.seq (.ops [⟨(some 16),(.mv (.t 4)),none⟩,
      ⟨(some 17),(.bin .shl (.k (I 1)) (.t 16)),none⟩,
      ⟨(some 18),(.bin .sub (.t 17) (.k (I 1))),none⟩,
      ⟨(some 5),(.mv (.t 18)),none⟩,
      ⟨(some 6),(.mv (.k (I 1))),none⟩])
    (.block 0 (.loop c19L0)))
    c19T7))))) ks fr H ms := rfl
def r19 : List IRes := [(.tmp 2),(.tmp 3)]
theorem t19 : Try.f19.body.bind (trCode Try.prog Try.f19.ntmps) = some (strip c19) := by kernel_rfl
theorem q19 : trRes Try.prog Try.f19.results.toList = some r19 := by kernel_rfl
theorem fn19 : Try.prog.funcs[19]? = some Try.f19 := by kernel_rfl
theorem nn19 : (Try.f19.name == "runtime.NumGoroutine") = false := by kernel_rfl
theorem nt19 : Try.f19.ntmps = 71 := by kernel_rfl
/- live: [0,4,5,6,7,8,9,98,99,100] -/
/- live: [0,4,5,6,7,8,9,12,13,14,64,65,72,73] -/
/- live: [0,4,5,6,7,8,9,12,64,65] -/
/- live: [0,4,5,6,7,8,9,10,11,31,32] -/
/- live: [0,4,5,6,7,8,9,31,32] -/
/- live: [0,4,5,6,7,8] -/
end Go.Proofs.Ytlonaefihjdkpaa
