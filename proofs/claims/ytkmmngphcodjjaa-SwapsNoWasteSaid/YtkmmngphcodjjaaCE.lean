/- The code of some functions of the program,cleaned: printed by a program of mine,checked here. -/
import Derived.Test.YtkmmngphcodjjaaProg
import Derived.Test.YtkmmngphcodjjaaAS
import Derived.Test.YtkmmngphcodjjaaCB
import Derived.KernelRfl
namespace Go.Proofs.Ytkmmngphcodjjaa
open Go.Abs AVal
def c62T1 : ICode :=
  (.keep [5] (.seq (.ops [⟨(some 37),(.mv (.t 5)),none⟩,
    ⟨(some 4),(.mv (.t 37)),none⟩])
  .ret))
theorem w62T1 {x : Cx} {Q : QT} {ks : List Kont} {fr : Fr} {H : AHeap} {ms : List Nat} : W x Q c62T1 ks fr H ms = W x Q (.keep [5] (.seq (.ops [⟨(some 37),(.mv (.t 5)),none⟩,
      ⟨(some 4),(.mv (.t 37)),none⟩])
    .ret)) ks fr H ms := rfl
/- live: [0,5,6,16,17,18] -/
def c62L0 : ICode :=
  (.seq (.ops [⟨(some 19),(.bin .lss (.t 18) (.t 17)),none⟩])
  (.seq (.cond (.t 19)
    .skip
    (.exit 0))
  (.seq (.block 1 (.seq (.ops [⟨(some 20),(.ixS 1 (.t 16) (.t 18)),none⟩,
    ⟨(some 21),(.load false 1 (.t 20)),none⟩,
    ⟨(some 8),(.mv (.t 21)),none⟩])
  (.seq (.ops [⟨(some 22),(.mv (.t 5)),none⟩,
    ⟨(some 23),(.mv (.t 8)),none⟩,
    ⟨(some 24),(.mv (.t 0)),none⟩,
    ⟨(some 25),(.mv (.t 8)),none⟩,
    ⟨(some 26),(.mv (.t 6)),none⟩,
    ⟨(some 27),(.call (.k (.fn (.func 81) [] [])) [(.t 24),(.t 25),(.t 26)]),none⟩,
    ⟨(some 28),(.ixS 1 (.t 22) (.t 23)),none⟩,
    ⟨none,(.store 1 (.t 28) (.t 27)),none⟩])
  (.ops [⟨(some 29),(.mv (.t 6)),none⟩,
    ⟨(some 30),(.mv (.t 5)),none⟩,
    ⟨(some 31),(.mv (.t 8)),none⟩,
    ⟨(some 32),(.ixS 1 (.t 30) (.t 31)),none⟩,
    ⟨(some 33),(.load false 1 (.t 32)),none⟩,
    ⟨(some 34),(.bin .shl (.k (I 1)) (.t 33)),none⟩,
    ⟨(some 35),(.bin .andNot (.t 29) (.t 34)),none⟩,
    ⟨(some 6),(.mv (.t 35)),none⟩]))))
  (.ops [⟨(some 36),(.bin .add (.t 18) (.k (I 1))),none⟩,
    ⟨(some 18),(.mv (.t 36)),none⟩]))))
theorem w62L0 {x : Cx} {Q : QT} {ks : List Kont} {fr : Fr} {H : AHeap} {ms : List Nat} : W x Q c62L0 ks fr H ms = W x Q (.seq (.ops [⟨(some 19),(.bin .lss (.t 18) (.t 17)),none⟩])
    (.seq (.cond (.t 19)
      .skip
      (.exit 0))
    (.seq (.block 1 (.seq (.ops [⟨(some 20),(.ixS 1 (.t 16) (.t 18)),none⟩,
      ⟨(some 21),(.load false 1 (.t 20)),none⟩,
      ⟨(some 8),(.mv (.t 21)),none⟩])
    (.seq (.ops [⟨(some 22),(.mv (.t 5)),none⟩,
      ⟨(some 23),(.mv (.t 8)),none⟩,
      ⟨(some 24),(.mv (.t 0)),none⟩,
      ⟨(some 25),(.mv (.t 8)),none⟩,
      ⟨(some 26),(.mv (.t 6)),none⟩,
      ⟨(some 27),(.call (.k (.fn (.func 81) [] [])) [(.t 24),(.t 25),(.t 26)]),none⟩,
      ⟨(some 28),(.ixS 1 (.t 22) (.t 23)),none⟩,
      ⟨none,(.store 1 (.t 28) (.t 27)),none⟩])
    (.ops [⟨(some 29),(.mv (.t 6)),none⟩,
      ⟨(some 30),(.mv (.t 5)),none⟩,
      ⟨(some 31),(.mv (.t 8)),none⟩,
      ⟨(some 32),(.ixS 1 (.t 30) (.t 31)),none⟩,
      ⟨(some 33),(.load false 1 (.t 32)),none⟩,
      ⟨(some 34),(.bin .shl (.k (I 1)) (.t 33)),none⟩,
      ⟨(some 35),(.bin .andNot (.t 29) (.t 34)),none⟩,
      ⟨(some 6),(.mv (.t 35)),none⟩]))))
    (.ops [⟨(some 36),(.bin .add (.t 18) (.k (I 1))),none⟩,
      ⟨(some 18),(.mv (.t 36)),none⟩])))) ks fr H ms := rfl
def c62 : ICode :=
  (.seq (.ops [⟨(some 4),(.mv (.k nilSl)),none⟩])
  (.seq (.ops [⟨(some 9),(.mv (.t 0)),none⟩,
    ⟨(some 10),(.len (.t 9)),none⟩,
    ⟨(some 11),(.mksl 1 8 [(I 0)] (.t 10) (.t 10)),none⟩,
    ⟨(some 5),(.mv (.t 11)),none⟩])
  (.seq (.ops [⟨(some 12),(.mv (.t 0)),none⟩,
    ⟨(some 13),(.len (.t 12)),none⟩,
    ⟨(some 14),(.bin .shl (.k (I 1)) (.t 13)),none⟩,
    ⟨(some 15),(.bin .sub (.t 14) (.k (I 1))),none⟩,
    ⟨(some 6),(.mv (.t 15)),none⟩])
  (.seq (.seq (.ops [⟨(some 16),(.mv (.t 1)),none⟩,
    ⟨(some 17),(.len (.t 16)),none⟩,
    ⟨(some 18),(.mv (.k (I 0))),none⟩])
  (.block 0 (.loop c62L0)))
  c62T1))))
theorem w62 {x : Cx} {Q : QT} {ks : List Kont} {fr : Fr} {H : AHeap} {ms : List Nat} : W x Q c62 ks fr H ms = W x Q (.seq (.ops [⟨(some 4),(.mv (.k nilSl)),none⟩])
    (.seq (.ops [⟨(some 9),(.mv (.t 0)),none⟩,
      ⟨(some 10),(.len (.t 9)),none⟩,
      ⟨(some 11),(.mksl 1 8 [(I 0)] (.t 10) (.t 10)),none⟩,
      ⟨(some 5),(.mv (.t 11)),none⟩])
    (.seq (.ops [⟨(some 12),(.mv (.t 0)),none⟩,
      ⟨(some 13),(.len (.t 12)),none⟩,
      ⟨(some 14),(.bin .shl (.k (I 1)) (.t 13)),none⟩,
      ⟨(some 15),(.bin .sub (.t 14) (.k (I 1))),none⟩,
      ⟨(some 6),(.mv (.t 15)),none⟩])
    (.seq (.seq (.ops [⟨(some 16),(.mv (.t 1)),none⟩,
      ⟨(some 17),(.len (.t 16)),none⟩,
      ⟨(some 18),(.mv (.k (I 0))),none⟩])
    (.block 0 (.loop c62L0)))
    c62T1)))) ks fr H ms := rfl
def r62 : List IRes := [(.tmp 4)]
theorem t62 : Try.f62.body.bind (trCode Try.prog Try.f62.ntmps) = some (strip c62) := by kernel_rfl
theorem q62 : trRes Try.prog Try.f62.results.toList = some r62 := by kernel_rfl
theorem fn62 : Try.prog.funcs[62]? = some Try.f62 := by kernel_rfl
theorem nn62 : (Try.f62.name == "runtime.NumGoroutine") = false := by kernel_rfl
theorem nt62 : Try.f62.ntmps = 38 := by kernel_rfl
def c30 : ICode :=
  (.seq (.ops [⟨(some 4),(.mv (.k nilSl)),none⟩,
    ⟨(some 5),(.mv (.k (I 0))),none⟩])
  (.seq (.seq (.ops [⟨(some 6),(.mv (.t 0)),none⟩,
    ⟨(some 7),(.call (.k (.fn (.func 55) [] [])) [(.t 6)]),none⟩,
    ⟨(some 8),(.un .not (.t 7)),none⟩,
    ⟨(some 9),(.mv (.t 8)),none⟩,
    ⟨(some 10),(.mv (.t 1)),(some (9,false))⟩,
    ⟨(some 11),(.mv (.t 0)),(some (9,false))⟩,
    ⟨(some 12),(.len (.t 11)),(some (9,false))⟩,
    ⟨(some 13),(.call (.k (.fn (.func 59) [] [])) [(.t 10),(.t 12)]),(some (9,false))⟩,
    ⟨(some 14),(.un .not (.t 13)),(some (9,false))⟩,
    ⟨(some 15),(.pick (.t 9) (.k (B true)) (.t 14)),none⟩])
  (.cond (.t 15)
    (.seq (.ops [⟨(some 4),(.mv (.k nilSl)),none⟩,
      ⟨(some 5),(.mv (.k (I 2))),none⟩])
    .ret)
    .skip))
  (.seq (.ops [⟨(some 16),(.mv (.t 0)),none⟩,
    ⟨(some 17),(.mv (.t 1)),none⟩,
    ⟨(some 18),(.call (.k (.fn (.func 62) [] [])) [(.t 16),(.t 17)]),none⟩,
    ⟨(some 4),(.mv (.t 18)),none⟩,
    ⟨(some 5),(.mv (.k (I 0))),none⟩])
  .ret)))
theorem w30 {x : Cx} {Q : QT} {ks : List Kont} {fr : Fr} {H : AHeap} {ms : List Nat} : W x Q c30 ks fr H ms = W x Q (.seq (.ops [⟨(some 4),(.mv (.k nilSl)),none⟩,
      ⟨(some 5),(.mv (.k (I 0))),none⟩])
    (.seq (.seq (.ops [⟨(some 6),(.mv (.t 0)),none⟩,
      ⟨(some 7),(.call (.k (.fn (.func 55) [] [])) [(.t 6)]),none⟩,
      ⟨(some 8),(.un .not (.t 7)),none⟩,
      ⟨(some 9),(.mv (.t 8)),none⟩,
      ⟨(some 10),(.mv (.t 1)),(some (9,false))⟩,
      ⟨(some 11),(.mv (.t 0)),(some (9,false))⟩,
      ⟨(some 12),(.len (.t 11)),(some (9,false))⟩,
      ⟨(some 13),(.call (.k (.fn (.func 59) [] [])) [(.t 10),(.t 12)]),(some (9,false))⟩,
      ⟨(some 14),(.un .not (.t 13)),(some (9,false))⟩,
      ⟨(some 15),(.pick (.t 9) (.k (B true)) (.t 14)),none⟩])
    (.cond (.t 15)
      (.seq (.ops [⟨(some 4),(.mv (.k nilSl)),none⟩,
        ⟨(some 5),(.mv (.k (I 2))),none⟩])
      .ret)
      .skip))
    (.seq (.ops [⟨(some 16),(.mv (.t 0)),none⟩,
      ⟨(some 17),(.mv (.t 1)),none⟩,
      ⟨(some 18),(.call (.k (.fn (.func 62) [] [])) [(.t 16),(.t 17)]),none⟩,
      ⟨(some 4),(.mv (.t 18)),none⟩,
      ⟨(some 5),(.mv (.k (I 0))),none⟩])
    .ret))) ks fr H ms := rfl
def r30 : List IRes := [(.tmp 4),(.tmp 5)]
theorem t30 : Try.f30.body.bind (trCode Try.prog Try.f30.ntmps) = some (strip c30) := by kernel_rfl
theorem q30 : trRes Try.prog Try.f30.results.toList = some r30 := by kernel_rfl
theorem fn30 : Try.prog.funcs[30]? = some Try.f30 := by kernel_rfl
theorem nn30 : (Try.f30.name == "runtime.NumGoroutine") = false := by kernel_rfl
theorem nt30 : Try.f30.ntmps = 19 := by kernel_rfl
def c63 : ICode :=
  (.seq (.ops [⟨(some 2),(.box (.t 0)),none⟩,
    ⟨(some 3),(.box (.t 1)),none⟩,
    ⟨(some 4),(.mv (.k (.val .nilFunc))),none⟩])
  (.seq (.ops [⟨(some 5),(.mkfn (.func 82) [] [(.t 2),(.t 3)]),none⟩,
    ⟨(some 4),(.mv (.t 5)),none⟩])
  .ret))
theorem w63 {x : Cx} {Q : QT} {ks : List Kont} {fr : Fr} {H : AHeap} {ms : List Nat} : W x Q c63 ks fr H ms = W x Q (.seq (.ops [⟨(some 2),(.box (.t 0)),none⟩,
      ⟨(some 3),(.box (.t 1)),none⟩,
      ⟨(some 4),(.mv (.k (.val .nilFunc))),none⟩])
    (.seq (.ops [⟨(some 5),(.mkfn (.func 82) [] [(.t 2),(.t 3)]),none⟩,
      ⟨(some 4),(.mv (.t 5)),none⟩])
    .ret)) ks fr H ms := rfl
def r63 : List IRes := [(.tmp 4)]
theorem t63 : Try.f63.body.bind (trCode Try.prog Try.f63.ntmps) = some (strip c63) := by kernel_rfl
theorem q63 : trRes Try.prog Try.f63.results.toList = some r63 := by kernel_rfl
theorem fn63 : Try.prog.funcs[63]? = some Try.f63 := by kernel_rfl
theorem nn63 : (Try.f63.name == "runtime.NumGoroutine") = false := by kernel_rfl
theorem nt63 : Try.f63.ntmps = 6 := by kernel_rfl
def c83T1 : ICode :=
  (.keep [] (.seq (.ops [⟨(some 9),(.mv (.k (B true))),none⟩])
  .ret))
theorem w83T1 {x : Cx} {Q : QT} {ks : List Kont} {fr : Fr} {H : AHeap} {ms : List Nat} : W x Q c83T1 ks fr H ms = W x Q (.keep [] (.seq (.ops [⟨(some 9),(.mv (.k (B true))),none⟩])
    .ret)) ks fr H ms := rfl
/- live: [0,1,4,6,27,28] -/
def c83L0 : ICode :=
  (.seq (.ops [⟨(some 29),(.bin .lss (.t 28) (.t 27)),none⟩])
  (.seq (.cond (.t 29)
    .skip
    (.exit 0))
  (.seq (.block 1 (.seq (.ops [⟨(some 30),(.mv (.t 28)),none⟩,
    ⟨(some 10),(.mv (.t 30)),none⟩])
  (.seq (.ops [⟨(some 31),(.mv (.t 1)),none⟩,
    ⟨(some 32),(.mv (.t 10)),none⟩,
    ⟨(some 33),(.bin .shr (.t 31) (.t 32)),none⟩,
    ⟨(some 34),(.bin .and (.t 33) (.k (I 1))),none⟩,
    ⟨(some 35),(.bin .eql (.t 34) (.k (I 1))),none⟩])
  (.cond (.t 35)
    (.seq (.ops [⟨(some 36),(.load false 1 (.t 4)),none⟩,
      ⟨(some 37),(.mv (.t 0)),none⟩,
      ⟨(some 38),(.mv (.t 10)),none⟩,
      ⟨(some 39),(.ixS 1 (.t 36) (.t 37)),none⟩,
      ⟨none,(.store 1 (.t 39) (.t 38)),none⟩])
    (.seq (.draw 0 [] (.early 1 ⟨(some 40),(.load false 1 (.t 6)),none⟩
      (.early 1 ⟨(some 41),(.mv (.t 0)),none⟩
      (.early 1 ⟨(some 42),(.bin .add (.t 41) (.k (I 1))),none⟩
      (.early 1 ⟨(some 43),(.mv (.t 1)),none⟩
      (.early 1 ⟨(some 44),(.mv (.t 10)),none⟩
      (.early 1 ⟨(some 45),(.bin .shl (.k (I 1)) (.t 44)),none⟩
      (.early 1 ⟨(some 46),(.bin .andNot (.t 43) (.t 45)),none⟩
      (.step 0 0 ⟨(some 47),(.call (.t 40) [(.t 42),(.t 46)]),none⟩
      (.early 0 ⟨(some 48),(.un .not (.t 47)),none⟩
      .done))))))))))
    (.keep [0,1,4,6,27,28,48] (.cond (.t 48)
      (.seq (.ops [⟨(some 9),(.mv (.k (B false))),none⟩])
      .ret)
      .skip))))
    .skip))))
  (.ops [⟨(some 49),(.bin .add (.t 28) (.k (I 1))),none⟩,
    ⟨(some 28),(.mv (.t 49)),none⟩]))))
theorem w83L0 {x : Cx} {Q : QT} {ks : List Kont} {fr : Fr} {H : AHeap} {ms : List Nat} : W x Q c83L0 ks fr H ms = W x Q (.seq (.ops [⟨(some 29),(.bin .lss (.t 28) (.t 27)),none⟩])
    (.seq (.cond (.t 29)
      .skip
      (.exit 0))
    (.seq (.block 1 (.seq (.ops [⟨(some 30),(.mv (.t 28)),none⟩,
      ⟨(some 10),(.mv (.t 30)),none⟩])
    (.seq (.ops [⟨(some 31),(.mv (.t 1)),none⟩,
      ⟨(some 32),(.mv (.t 10)),none⟩,
      ⟨(some 33),(.bin .shr (.t 31) (.t 32)),none⟩,
      ⟨(some 34),(.bin .and (.t 33) (.k (I 1))),none⟩,
      ⟨(some 35),(.bin .eql (.t 34) (.k (I 1))),none⟩])
    (.cond (.t 35)
      (.seq (.ops [⟨(some 36),(.load false 1 (.t 4)),none⟩,
        ⟨(some 37),(.mv (.t 0)),none⟩,
        ⟨(some 38),(.mv (.t 10)),none⟩,
        ⟨(some 39),(.ixS 1 (.t 36) (.t 37)),none⟩,
        ⟨none,(.store 1 (.t 39) (.t 38)),none⟩])
      (.seq (.draw 0 [] (.early 1 ⟨(some 40),(.load false 1 (.t 6)),none⟩
        (.early 1 ⟨(some 41),(.mv (.t 0)),none⟩
        (.early 1 ⟨(some 42),(.bin .add (.t 41) (.k (I 1))),none⟩
        (.early 1 ⟨(some 43),(.mv (.t 1)),none⟩
        (.early 1 ⟨(some 44),(.mv (.t 10)),none⟩
        (.early 1 ⟨(some 45),(.bin .shl (.k (I 1)) (.t 44)),none⟩
        (.early 1 ⟨(some 46),(.bin .andNot (.t 43) (.t 45)),none⟩
        (.step 0 0 ⟨(some 47),(.call (.t 40) [(.t 42),(.t 46)]),none⟩
        (.early 0 ⟨(some 48),(.un .not (.t 47)),none⟩
        .done))))))))))
      (.keep [0,1,4,6,27,28,48] (.cond (.t 48)
        (.seq (.ops [⟨(some 9),(.mv (.k (B false))),none⟩])
        .ret)
        .skip))))
      .skip))))
    (.ops [⟨(some 49),(.bin .add (.t 28) (.k (I 1))),none⟩,
      ⟨(some 28),(.mv (.t 49)),none⟩])))) ks fr H ms := rfl
def c83 : ICode :=
  (.seq (.ops [⟨(some 9),(.mv (.k (B false))),none⟩])
  (.seq (.seq (.ops [⟨(some 11),(.mv (.t 0)),none⟩,
    ⟨(some 12),(.load false 1 (.t 2)),none⟩,
    ⟨(some 13),(.bin .eql (.t 11) (.t 12)),none⟩])
  (.cond (.t 13)
    (.seq (.ops [⟨(some 14),(.load false 1 (.t 3)),none⟩,
      ⟨(some 15),(.load false 1 (.t 4)),none⟩,
      ⟨(some 16),(.call (.t 14) [(.t 15)]),none⟩,
      ⟨(some 9),(.mv (.t 16)),none⟩])
    .ret)
    .skip))
  (.seq (.seq (.ops [⟨(some 17),(.load false 1 (.t 5)),none⟩,
    ⟨(some 18),(.mv (.t 0)),none⟩,
    ⟨(some 19),(.bin .shr (.t 17) (.t 18)),none⟩,
    ⟨(some 20),(.bin .and (.t 19) (.k (I 1))),none⟩,
    ⟨(some 21),(.bin .eql (.t 20) (.k (I 0))),none⟩])
  (.cond (.t 21)
    (.seq (.ops [⟨(some 22),(.load false 1 (.t 6)),none⟩,
      ⟨(some 23),(.mv (.t 0)),none⟩,
      ⟨(some 24),(.bin .add (.t 23) (.k (I 1))),none⟩,
      ⟨(some 25),(.mv (.t 1)),none⟩,
      ⟨(some 26),(.call (.t 22) [(.t 24),(.t 25)]),none⟩,
      ⟨(some 9),(.mv (.t 26)),none⟩])
    .ret)
    .skip))
  (.seq (.seq (.ops [⟨(some 27),(.load false 1 (.t 2)),none⟩,
    ⟨(some 28),(.mv (.k (I 0))),none⟩])
  (.block 0 (.loop c83L0)))
  c83T1))))
theorem w83 {x : Cx} {Q : QT} {ks : List Kont} {fr : Fr} {H : AHeap} {ms : List Nat} : W x Q c83 ks fr H ms = W x Q (.seq (.ops [⟨(some 9),(.mv (.k (B false))),none⟩])
    (.seq (.seq (.ops [⟨(some 11),(.mv (.t 0)),none⟩,
      ⟨(some 12),(.load false 1 (.t 2)),none⟩,
      ⟨(some 13),(.bin .eql (.t 11) (.t 12)),none⟩])
    (.cond (.t 13)
      (.seq (.ops [⟨(some 14),(.load false 1 (.t 3)),none⟩,
        ⟨(some 15),(.load false 1 (.t 4)),none⟩,
        ⟨(some 16),(.call (.t 14) [(.t 15)]),none⟩,
        ⟨(some 9),(.mv (.t 16)),none⟩])
      .ret)
      .skip))
    (.seq (.seq (.ops [⟨(some 17),(.load false 1 (.t 5)),none⟩,
      ⟨(some 18),(.mv (.t 0)),none⟩,
      ⟨(some 19),(.bin .shr (.t 17) (.t 18)),none⟩,
      ⟨(some 20),(.bin .and (.t 19) (.k (I 1))),none⟩,
      ⟨(some 21),(.bin .eql (.t 20) (.k (I 0))),none⟩])
    (.cond (.t 21)
      (.seq (.ops [⟨(some 22),(.load false 1 (.t 6)),none⟩,
        ⟨(some 23),(.mv (.t 0)),none⟩,
        ⟨(some 24),(.bin .add (.t 23) (.k (I 1))),none⟩,
        ⟨(some 25),(.mv (.t 1)),none⟩,
        ⟨(some 26),(.call (.t 22) [(.t 24),(.t 25)]),none⟩,
        ⟨(some 9),(.mv (.t 26)),none⟩])
      .ret)
      .skip))
    (.seq (.seq (.ops [⟨(some 27),(.load false 1 (.t 2)),none⟩,
      ⟨(some 28),(.mv (.k (I 0))),none⟩])
    (.block 0 (.loop c83L0)))
    c83T1)))) ks fr H ms := rfl
def r83 : List IRes := [(.tmp 9)]
theorem t83 : Try.f83.body.bind (trCode Try.prog Try.f83.ntmps) = some (strip c83) := by kernel_rfl
theorem q83 : trRes Try.prog Try.f83.results.toList = some r83 := by kernel_rfl
theorem fn83 : Try.prog.funcs[83]? = some Try.f83 := by kernel_rfl
theorem nn83 : (Try.f83.name == "runtime.NumGoroutine") = false := by kernel_rfl
theorem nt83 : Try.f83.ntmps = 50 := by kernel_rfl
def c82 : ICode :=
  (.seq (.ops [⟨(some 3),(.box (.t 0)),none⟩])
  (.seq (.ops [⟨(some 6),(.load false 1 (.t 1)),none⟩,
    ⟨(some 7),(.mksl 1 8 [(I 0)] (.t 6) (.t 6)),none⟩,
    ⟨(some 4),(.alloc [nilSl]),none⟩,
    ⟨none,(.store 1 (.t 4) (.t 7)),none⟩])
  (.seq (.ops [⟨(some 5),(.alloc [(.val .nilFunc)]),none⟩])
  (.seq (.ops [⟨(some 8),(.mkfn (.func 83) [] [(.t 1),(.t 3),(.t 4),(.t 2),(.t 5)]),none⟩,
    ⟨none,(.store 1 (.t 5) (.t 8)),none⟩])
  (.ops [⟨(some 9),(.load false 1 (.t 5)),none⟩,
    ⟨(some 10),(.load false 1 (.t 2)),none⟩,
    ⟨(some 11),(.call (.t 9) [(.k (I 0)),(.t 10)]),none⟩])))))
theorem w82 {x : Cx} {Q : QT} {ks : List Kont} {fr : Fr} {H : AHeap} {ms : List Nat} : W x Q c82 ks fr H ms = W x Q (.seq (.ops [⟨(some 3),(.box (.t 0)),none⟩])
    (.seq (.ops [⟨(some 6),(.load false 1 (.t 1)),none⟩,
      ⟨(some 7),(.mksl 1 8 [(I 0)] (.t 6) (.t 6)),none⟩,
      ⟨(some 4),(.alloc [nilSl]),none⟩,
      ⟨none,(.store 1 (.t 4) (.t 7)),none⟩])
    (.seq (.ops [⟨(some 5),(.alloc [(.val .nilFunc)]),none⟩])
    (.seq (.ops [⟨(some 8),(.mkfn (.func 83) [] [(.t 1),(.t 3),(.t 4),(.t 2),(.t 5)]),none⟩,
      ⟨none,(.store 1 (.t 5) (.t 8)),none⟩])
    (.ops [⟨(some 9),(.load false 1 (.t 5)),none⟩,
      ⟨(some 10),(.load false 1 (.t 2)),none⟩,
      ⟨(some 11),(.call (.t 9) [(.k (I 0)),(.t 10)]),none⟩]))))) ks fr H ms := rfl
def r82 : List IRes := []
theorem t82 : Try.f82.body.bind (trCode Try.prog Try.f82.ntmps) = some (strip c82) := by kernel_rfl
theorem q82 : trRes Try.prog Try.f82.results.toList = some r82 := by kernel_rfl
theorem fn82 : Try.prog.funcs[82]? = some Try.f82 := by kernel_rfl
theorem nn82 : (Try.f82.name == "runtime.NumGoroutine") = false := by kernel_rfl
theorem nt82 : Try.f82.ntmps = 12 := by kernel_rfl
def c31R0a : ICode :=
  (.ops [⟨(some 7),(.mv (.t 26)),none⟩])
theorem w31R0a {x : Cx} {Q : QT} {ks : List Kont} {fr : Fr} {H : AHeap} {ms : List Nat} : W x Q c31R0a ks fr H ms = W x Q (.ops [⟨(some 7),(.mv (.t 26)),none⟩]) ks fr H ms := rfl
theorem t31R0a : trCode Try.prog 34 (asOf Try.f31 0) = some (strip c31R0a) := by kernel_rfl
def c31R0b : ICode :=
  (.block 1 (.seq (.draw 0 [] (.early 1 ⟨(some 27),(.load false 1 (.t 6)),none⟩
    (.early 1 ⟨(some 28),(.mv (.t 7)),none⟩
    (.early 1 ⟨(some 29),(.call (.k (.fn (.func 62) [] [])) [(.t 27),(.t 28)]),none⟩
    (.early 1 ⟨(some 30),(.load false 1 (.t 3)),none⟩
    (.step 0 0 ⟨(some 31),(.call (.k (.fn (.func 20) [] [])) [(.t 29),(.t 30)]),none⟩
    .done))))))
  (.cond (.t 31)
    (.seq (.ops [⟨(some 32),(.mv (.t 7)),none⟩,
      ⟨(some 33),(.call (.k (.fn (.func 43) [] [])) [(.t 32)]),none⟩,
      ⟨none,(.store 1 (.t 4) (.t 33)),none⟩,
      ⟨none,(.store 1 (.t 5) (.k (I 0))),none⟩])
    .ret)
    .skip)))
theorem w31R0b {x : Cx} {Q : QT} {ks : List Kont} {fr : Fr} {H : AHeap} {ms : List Nat} : W x Q c31R0b ks fr H ms = W x Q (.block 1 (.seq (.draw 0 [] (.early 1 ⟨(some 27),(.load false 1 (.t 6)),none⟩
      (.early 1 ⟨(some 28),(.mv (.t 7)),none⟩
      (.early 1 ⟨(some 29),(.call (.k (.fn (.func 62) [] [])) [(.t 27),(.t 28)]),none⟩
      (.early 1 ⟨(some 30),(.load false 1 (.t 3)),none⟩
      (.step 0 0 ⟨(some 31),(.call (.k (.fn (.func 20) [] [])) [(.t 29),(.t 30)]),none⟩
      .done))))))
    (.cond (.t 31)
      (.seq (.ops [⟨(some 32),(.mv (.t 7)),none⟩,
        ⟨(some 33),(.call (.k (.fn (.func 43) [] [])) [(.t 32)]),none⟩,
        ⟨none,(.store 1 (.t 4) (.t 33)),none⟩,
        ⟨none,(.store 1 (.t 5) (.k (I 0))),none⟩])
      .ret)
      .skip))) ks fr H ms := rfl
theorem t31R0b : trCode Try.prog 34 (bdOf Try.f31 0) = some (strip c31R0b) := by kernel_rfl
def c31T0 : ICode :=
  (.seq (.ops [⟨none,(.store 1 (.t 4) (.k nilSl)),none⟩,
    ⟨none,(.store 1 (.t 5) (.k (I 4))),none⟩])
  .ret)
theorem w31T0 {x : Cx} {Q : QT} {ks : List Kont} {fr : Fr} {H : AHeap} {ms : List Nat} : W x Q c31T0 ks fr H ms = W x Q (.seq (.ops [⟨none,(.store 1 (.t 4) (.k nilSl)),none⟩,
      ⟨none,(.store 1 (.t 5) (.k (I 4))),none⟩])
    .ret) ks fr H ms := rfl
noncomputable def c31 : ICode :=
  (.seq (.ops [⟨(some 3),(.box (.t 1)),none⟩,
    ⟨(some 4),(.alloc [nilSl]),none⟩,
    ⟨(some 5),(.alloc [(I 0)]),none⟩])
  (.seq (.ops [⟨(some 8),(.mv (.t 0)),none⟩,
    ⟨(some 6),(.alloc [nilSl]),none⟩,
    ⟨none,(.store 1 (.t 6) (.t 8)),none⟩])
  (.seq (.seq (.ops [⟨(some 9),(.load false 1 (.t 6)),none⟩,
    ⟨(some 10),(.call (.k (.fn (.func 55) [] [])) [(.t 9)]),none⟩,
    ⟨(some 11),(.un .not (.t 10)),none⟩,
    ⟨(some 12),(.mv (.t 11)),none⟩,
    ⟨(some 13),(.load false 1 (.t 3)),(some (12,false))⟩,
    ⟨(some 14),(.mv (.t 0)),(some (12,false))⟩,
    ⟨(some 15),(.len (.t 14)),(some (12,false))⟩,
    ⟨(some 16),(.call (.k (.fn (.func 59) [] [])) [(.t 13),(.t 15)]),(some (12,false))⟩,
    ⟨(some 17),(.un .not (.t 16)),(some (12,false))⟩,
    ⟨(some 18),(.pick (.t 12) (.k (B true)) (.t 17)),none⟩])
  (.cond (.t 18)
    (.seq (.ops [⟨none,(.store 1 (.t 4) (.k nilSl)),none⟩,
      ⟨none,(.store 1 (.t 5) (.k (I 2))),none⟩])
    .ret)
    .skip))
  (.seq (.seq (.ops [⟨(some 19),(.mv (.t 0)),none⟩,
    ⟨(some 20),(.len (.t 19)),none⟩,
    ⟨(some 21),(.mv (.t 0)),none⟩,
    ⟨(some 22),(.len (.t 21)),none⟩,
    ⟨(some 23),(.bin .shl (.k (I 1)) (.t 22)),none⟩,
    ⟨(some 24),(.bin .sub (.t 23) (.k (I 1))),none⟩,
    ⟨(some 25),(.call (.k (.fn (.func 63) [] [])) [(.t 20),(.t 24)]),none⟩])
  (.block 0 (.range (.t 25) [26] (asOf Try.f31 0) (bdOf Try.f31 0))))
  c31T0))))
theorem w31 {x : Cx} {Q : QT} {ks : List Kont} {fr : Fr} {H : AHeap} {ms : List Nat} : W x Q c31 ks fr H ms = W x Q (.seq (.ops [⟨(some 3),(.box (.t 1)),none⟩,
      ⟨(some 4),(.alloc [nilSl]),none⟩,
      ⟨(some 5),(.alloc [(I 0)]),none⟩])
    (.seq (.ops [⟨(some 8),(.mv (.t 0)),none⟩,
      ⟨(some 6),(.alloc [nilSl]),none⟩,
      ⟨none,(.store 1 (.t 6) (.t 8)),none⟩])
    (.seq (.seq (.ops [⟨(some 9),(.load false 1 (.t 6)),none⟩,
      ⟨(some 10),(.call (.k (.fn (.func 55) [] [])) [(.t 9)]),none⟩,
      ⟨(some 11),(.un .not (.t 10)),none⟩,
      ⟨(some 12),(.mv (.t 11)),none⟩,
      ⟨(some 13),(.load false 1 (.t 3)),(some (12,false))⟩,
      ⟨(some 14),(.mv (.t 0)),(some (12,false))⟩,
      ⟨(some 15),(.len (.t 14)),(some (12,false))⟩,
      ⟨(some 16),(.call (.k (.fn (.func 59) [] [])) [(.t 13),(.t 15)]),(some (12,false))⟩,
      ⟨(some 17),(.un .not (.t 16)),(some (12,false))⟩,
      ⟨(some 18),(.pick (.t 12) (.k (B true)) (.t 17)),none⟩])
    (.cond (.t 18)
      (.seq (.ops [⟨none,(.store 1 (.t 4) (.k nilSl)),none⟩,
        ⟨none,(.store 1 (.t 5) (.k (I 2))),none⟩])
      .ret)
      .skip))
    (.seq (.seq (.ops [⟨(some 19),(.mv (.t 0)),none⟩,
      ⟨(some 20),(.len (.t 19)),none⟩,
      ⟨(some 21),(.mv (.t 0)),none⟩,
      ⟨(some 22),(.len (.t 21)),none⟩,
      ⟨(some 23),(.bin .shl (.k (I 1)) (.t 22)),none⟩,
      ⟨(some 24),(.bin .sub (.t 23) (.k (I 1))),none⟩,
      ⟨(some 25),(.call (.k (.fn (.func 63) [] [])) [(.t 20),(.t 24)]),none⟩])
    (.block 0 (.range (.t 25) [26] (asOf Try.f31 0) (bdOf Try.f31 0))))
    c31T0)))) ks fr H ms := rfl
def r31 : List IRes := [(.cell false 1 4),(.cell false 1 5)]
theorem t31 : Try.f31.body.bind (trCode Try.prog Try.f31.ntmps) = some (strip c31) := by kernel_rfl
theorem q31 : trRes Try.prog Try.f31.results.toList = some r31 := by kernel_rfl
theorem fn31 : Try.prog.funcs[31]? = some Try.f31 := by kernel_rfl
theorem nn31 : (Try.f31.name == "runtime.NumGoroutine") = false := by kernel_rfl
theorem nt31 : Try.f31.ntmps = 34 := by kernel_rfl
/- live: [0,5,6,8,9,13,14,15] -/
/- live: [0,5,6,13,14,15] -/
/- live: [0,1,5,6,7,16,17,20,21,22] -/
/- live: [0,1,5,16,17] -/
/- live: [0,1,7,8,13,14,15,21,22,23] -/
/- live: [0,1,13,14,15] -/
end Go.Proofs.Ytkmmngphcodjjaa
namespace Go.Proofs.Ytkmmngphcodjjaa
open Go.Abs AVal
def c39R0a : ICode :=
  (.ops [⟨(some 7),(.mv (.t 28)),none⟩])
theorem w39R0a {x : Cx} {Q : QT} {ks : List Kont} {fr : Fr} {H : AHeap} {ms : List Nat} : W x Q c39R0a ks fr H ms = W x Q (.ops [⟨(some 7),(.mv (.t 28)),none⟩]) ks fr H ms := rfl
theorem t39R0a : trCode Try.prog 48 (asOf Try.f39 0) = some (strip c39R0a) := by kernel_rfl
def c39R0b : ICode :=
  (.block 1 (.seq (.draw 0 [] (.early 1 ⟨(some 30),(.load false 1 (.t 6)),none⟩
    (.early 1 ⟨(some 31),(.load false 1 (.t 2)),none⟩
    (.early 1 ⟨(some 32),(.len (.t 31)),none⟩
    (.early 1 ⟨(some 33),(.bin .shl (.k (I 1)) (.t 32)),none⟩
    (.early 1 ⟨(some 34),(.bin .sub (.t 33) (.k (I 1))),none⟩
    (.early 1 ⟨(some 35),(.mv (.t 7)),none⟩
    (.early 1 ⟨(some 36),(.load false 1 (.t 3)),none⟩
    (.step 0 0 ⟨(some 37),(.call (.k (.fn (.func 67) [] [])) [(.t 30),(.t 34),(.t 35),(.t 36)]),none⟩
    (.early 0 ⟨(some 29),(.mv (.t 37)),none⟩
    (.early 1 ⟨(some 38),(.ext (.t 29) 0),none⟩
    (.early 1 ⟨(some 39),(.ext (.t 29) 1),none⟩
    (.early 1 ⟨(some 8),(.mv (.t 38)),none⟩
    (.early 0 ⟨(some 9),(.mv (.t 39)),none⟩
    .done))))))))))))))
  (.seq (.ops [⟨(some 40),(.mv (.t 9)),none⟩,
    ⟨(some 41),(.bin .eql (.t 40) (.k (I 0))),none⟩,
    ⟨(some 42),(.mv (.t 41)),none⟩,
    ⟨(some 43),(.mv (.t 8)),(some (42,true))⟩,
    ⟨(some 44),(.bin .gtr (.t 43) (.k (I 0))),(some (42,true))⟩,
    ⟨(some 45),(.pick (.t 42) (.t 44) (.k (B false))),none⟩])
  (.cond (.t 45)
    (.seq (.ops [⟨(some 46),(.mv (.t 7)),none⟩,
      ⟨(some 47),(.call (.k (.fn (.func 43) [] [])) [(.t 46)]),none⟩,
      ⟨none,(.store 1 (.t 4) (.t 47)),none⟩,
      ⟨none,(.store 1 (.t 5) (.k (I 0))),none⟩])
    .ret)
    .skip))))
theorem w39R0b {x : Cx} {Q : QT} {ks : List Kont} {fr : Fr} {H : AHeap} {ms : List Nat} : W x Q c39R0b ks fr H ms = W x Q (.block 1 (.seq (.draw 0 [] (.early 1 ⟨(some 30),(.load false 1 (.t 6)),none⟩
      (.early 1 ⟨(some 31),(.load false 1 (.t 2)),none⟩
      (.early 1 ⟨(some 32),(.len (.t 31)),none⟩
      (.early 1 ⟨(some 33),(.bin .shl (.k (I 1)) (.t 32)),none⟩
      (.early 1 ⟨(some 34),(.bin .sub (.t 33) (.k (I 1))),none⟩
      (.early 1 ⟨(some 35),(.mv (.t 7)),none⟩
      (.early 1 ⟨(some 36),(.load false 1 (.t 3)),none⟩
      (.step 0 0 ⟨(some 37),(.call (.k (.fn (.func 67) [] [])) [(.t 30),(.t 34),(.t 35),(.t 36)]),none⟩
      (.early 0 ⟨(some 29),(.mv (.t 37)),none⟩
      (.early 1 ⟨(some 38),(.ext (.t 29) 0),none⟩
      (.early 1 ⟨(some 39),(.ext (.t 29) 1),none⟩
      (.early 1 ⟨(some 8),(.mv (.t 38)),none⟩
      (.early 0 ⟨(some 9),(.mv (.t 39)),none⟩
      .done))))))))))))))
    (.seq (.ops [⟨(some 40),(.mv (.t 9)),none⟩,
      ⟨(some 41),(.bin .eql (.t 40) (.k (I 0))),none⟩,
      ⟨(some 42),(.mv (.t 41)),none⟩,
      ⟨(some 43),(.mv (.t 8)),(some (42,true))⟩,
      ⟨(some 44),(.bin .gtr (.t 43) (.k (I 0))),(some (42,true))⟩,
      ⟨(some 45),(.pick (.t 42) (.t 44) (.k (B false))),none⟩])
    (.cond (.t 45)
      (.seq (.ops [⟨(some 46),(.mv (.t 7)),none⟩,
        ⟨(some 47),(.call (.k (.fn (.func 43) [] [])) [(.t 46)]),none⟩,
        ⟨none,(.store 1 (.t 4) (.t 47)),none⟩,
        ⟨none,(.store 1 (.t 5) (.k (I 0))),none⟩])
      .ret)
      .skip)))) ks fr H ms := rfl
theorem t39R0b : trCode Try.prog 48 (bdOf Try.f39 0) = some (strip c39R0b) := by kernel_rfl
def c39T0 : ICode :=
  (.seq (.ops [⟨none,(.store 1 (.t 4) (.k nilSl)),none⟩,
    ⟨none,(.store 1 (.t 5) (.k (I 4))),none⟩])
  .ret)
theorem w39T0 {x : Cx} {Q : QT} {ks : List Kont} {fr : Fr} {H : AHeap} {ms : List Nat} : W x Q c39T0 ks fr H ms = W x Q (.seq (.ops [⟨none,(.store 1 (.t 4) (.k nilSl)),none⟩,
      ⟨none,(.store 1 (.t 5) (.k (I 4))),none⟩])
    .ret) ks fr H ms := rfl
noncomputable def c39 : ICode :=
  (.seq (.ops [⟨(some 2),(.box (.t 0)),none⟩,
    ⟨(some 3),(.box (.t 1)),none⟩,
    ⟨(some 4),(.alloc [nilSl]),none⟩,
    ⟨(some 5),(.alloc [(I 0)]),none⟩])
  (.seq (.ops [⟨(some 10),(.load false 1 (.t 2)),none⟩,
    ⟨(some 6),(.alloc [nilSl]),none⟩,
    ⟨none,(.store 1 (.t 6) (.t 10)),none⟩])
  (.seq (.seq (.ops [⟨(some 11),(.load false 1 (.t 6)),none⟩,
    ⟨(some 12),(.call (.k (.fn (.func 55) [] [])) [(.t 11)]),none⟩,
    ⟨(some 13),(.un .not (.t 12)),none⟩,
    ⟨(some 14),(.mv (.t 13)),none⟩,
    ⟨(some 15),(.load false 1 (.t 3)),(some (14,false))⟩,
    ⟨(some 16),(.load false 1 (.t 2)),(some (14,false))⟩,
    ⟨(some 17),(.len (.t 16)),(some (14,false))⟩,
    ⟨(some 18),(.call (.k (.fn (.func 59) [] [])) [(.t 15),(.t 17)]),(some (14,false))⟩,
    ⟨(some 19),(.un .not (.t 18)),(some (14,false))⟩,
    ⟨(some 20),(.pick (.t 14) (.k (B true)) (.t 19)),none⟩])
  (.cond (.t 20)
    (.seq (.ops [⟨none,(.store 1 (.t 4) (.k nilSl)),none⟩,
      ⟨none,(.store 1 (.t 5) (.k (I 2))),none⟩])
    .ret)
    .skip))
  (.seq (.seq (.draw 0 [] (.early 1 ⟨(some 21),(.load false 1 (.t 2)),none⟩
    (.early 1 ⟨(some 22),(.len (.t 21)),none⟩
    (.early 1 ⟨(some 23),(.load false 1 (.t 2)),none⟩
    (.early 1 ⟨(some 24),(.len (.t 23)),none⟩
    (.early 1 ⟨(some 25),(.bin .shl (.k (I 1)) (.t 24)),none⟩
    (.early 1 ⟨(some 26),(.bin .sub (.t 25) (.k (I 1))),none⟩
    (.step 0 0 ⟨(some 27),(.call (.k (.fn (.func 63) [] [])) [(.t 22),(.t 26)]),none⟩
    .done))))))))
  (.block 0 (.range (.t 27) [28] (asOf Try.f39 0) (bdOf Try.f39 0))))
  c39T0))))
theorem w39 {x : Cx} {Q : QT} {ks : List Kont} {fr : Fr} {H : AHeap} {ms : List Nat} : W x Q c39 ks fr H ms = W x Q (.seq (.ops [⟨(some 2),(.box (.t 0)),none⟩,
      ⟨(some 3),(.box (.t 1)),none⟩,
      ⟨(some 4),(.alloc [nilSl]),none⟩,
      ⟨(some 5),(.alloc [(I 0)]),none⟩])
    (.seq (.ops [⟨(some 10),(.load false 1 (.t 2)),none⟩,
      ⟨(some 6),(.alloc [nilSl]),none⟩,
      ⟨none,(.store 1 (.t 6) (.t 10)),none⟩])
    (.seq (.seq (.ops [⟨(some 11),(.load false 1 (.t 6)),none⟩,
      ⟨(some 12),(.call (.k (.fn (.func 55) [] [])) [(.t 11)]),none⟩,
      ⟨(some 13),(.un .not (.t 12)),none⟩,
      ⟨(some 14),(.mv (.t 13)),none⟩,
      ⟨(some 15),(.load false 1 (.t 3)),(some (14,false))⟩,
      ⟨(some 16),(.load false 1 (.t 2)),(some (14,false))⟩,
      ⟨(some 17),(.len (.t 16)),(some (14,false))⟩,
      ⟨(some 18),(.call (.k (.fn (.func 59) [] [])) [(.t 15),(.t 17)]),(some (14,false))⟩,
      ⟨(some 19),(.un .not (.t 18)),(some (14,false))⟩,
      ⟨(some 20),(.pick (.t 14) (.k (B true)) (.t 19)),none⟩])
    (.cond (.t 20)
      (.seq (.ops [⟨none,(.store 1 (.t 4) (.k nilSl)),none⟩,
        ⟨none,(.store 1 (.t 5) (.k (I 2))),none⟩])
      .ret)
      .skip))
    (.seq (.seq (.draw 0 [] (.early 1 ⟨(some 21),(.load false 1 (.t 2)),none⟩
      (.early 1 ⟨(some 22),(.len (.t 21)),none⟩
      (.early 1 ⟨(some 23),(.load false 1 (.t 2)),none⟩
      (.early 1 ⟨(some 24),(.len (.t 23)),none⟩
      (.early 1 ⟨(some 25),(.bin .shl (.k (I 1)) (.t 24)),none⟩
      (.early 1 ⟨(some 26),(.bin .sub (.t 25) (.k (I 1))),none⟩
      (.step 0 0 ⟨(some 27),(.call (.k (.fn (.func 63) [] [])) [(.t 22),(.t 26)]),none⟩
      .done))))))))
    (.block 0 (.range (.t 27) [28] (asOf Try.f39 0) (bdOf Try.f39 0))))
    c39T0)))) ks fr H ms := rfl
def r39 : List IRes := [(.cell false 1 4),(.cell false 1 5)]
theorem t39 : Try.f39.body.bind (trCode Try.prog Try.f39.ntmps) = some (strip c39) := by kernel_rfl
theorem q39 : trRes Try.prog Try.f39.results.toList = some r39 := by kernel_rfl
theorem fn39 : Try.prog.funcs[39]? = some Try.f39 := by kernel_rfl
theorem nn39 : (Try.f39.name == "runtime.NumGoroutine") = false := by kernel_rfl
theorem nt39 : Try.f39.ntmps = 48 := by kernel_rfl
/- live: [0,1,2,8,9] -/
def c67T1 : ICode :=
  (.keep [8,9] (.seq (.ops [⟨(some 50),(.mv (.t 8)),none⟩,
    ⟨(some 51),(.mv (.t 9)),none⟩,
    ⟨(some 8),(.mv (.t 50)),none⟩,
    ⟨(some 9),(.mv (.t 51)),none⟩])
  .ret))
theorem w67T1 {x : Cx} {Q : QT} {ks : List Kont} {fr : Fr} {H : AHeap} {ms : List Nat} : W x Q c67T1 ks fr H ms = W x Q (.keep [8,9] (.seq (.ops [⟨(some 50),(.mv (.t 8)),none⟩,
      ⟨(some 51),(.mv (.t 9)),none⟩,
      ⟨(some 8),(.mv (.t 50)),none⟩,
      ⟨(some 9),(.mv (.t 51)),none⟩])
    .ret)) ks fr H ms := rfl
/- live: [0,1,2,3,8,9,14,15] -/
def c67L0 : ICode :=
  (.seq (.ops [⟨(some 16),(.bin .lss (.t 15) (.t 14)),none⟩])
  (.seq (.cond (.t 16)
    .skip
    (.exit 0))
  (.seq (.block 1 (.seq (.ops [⟨(some 17),(.mv (.t 15)),none⟩,
    ⟨(some 10),(.mv (.t 17)),none⟩])
  (.seq (.seq (.ops [⟨(some 18),(.mv (.t 1)),none⟩,
    ⟨(some 19),(.mv (.t 10)),none⟩,
    ⟨(some 20),(.bin .shr (.t 18) (.t 19)),none⟩,
    ⟨(some 21),(.bin .and (.t 20) (.k (I 1))),none⟩,
    ⟨(some 22),(.bin .eql (.t 21) (.k (I 0))),none⟩])
  (.cond (.t 22)
    (.exit 1)
    .skip))
  (.seq (.draw 0 [] (.early 1 ⟨(some 23),(.mv (.t 0)),none⟩
    (.early 1 ⟨(some 24),(.mv (.t 10)),none⟩
    (.early 1 ⟨(some 25),(.mv (.t 2)),none⟩
    (.early 1 ⟨(some 26),(.mv (.t 10)),none⟩
    (.early 1 ⟨(some 27),(.ixS 1 (.t 25) (.t 26)),none⟩
    (.early 1 ⟨(some 28),(.load false 1 (.t 27)),none⟩
    (.early 1 ⟨(some 29),(.call (.k (.fn (.func 61) [] [])) [(.t 23),(.t 24),(.t 28)]),none⟩
    (.early 1 ⟨(some 30),(.mv (.t 0)),none⟩
    (.early 1 ⟨(some 31),(.mv (.t 10)),none⟩
    (.early 1 ⟨(some 32),(.mv (.t 3)),none⟩
    (.early 1 ⟨(some 33),(.mv (.t 10)),none⟩
    (.early 1 ⟨(some 34),(.ixS 1 (.t 32) (.t 33)),none⟩
    (.early 1 ⟨(some 35),(.load false 1 (.t 34)),none⟩
    (.step 0 0 ⟨(some 36),(.call (.k (.fn (.func 61) [] [])) [(.t 30),(.t 31),(.t 35)]),none⟩
    (.early 0 ⟨(some 11),(.mv (.t 29)),none⟩
    (.early 0 ⟨(some 12),(.mv (.t 36)),none⟩
    .done)))))))))))))))))
  (.keep [0,1,2,3,8,9,11,12,14,15] (.block 2 (.seq (.ops [⟨(some 38),(.mv (.t 11)),none⟩,
    ⟨(some 39),(.mv (.t 12)),none⟩,
    ⟨(some 40),(.bin .lss (.t 38) (.t 39)),none⟩,
    ⟨(some 37),(.mv (.t 40)),none⟩])
  (.cond (.t 37)
    (.ops [⟨(some 41),(.mv (.t 8)),none⟩,
      ⟨(some 42),(.bin .add (.t 41) (.k (I 1))),none⟩,
      ⟨(some 8),(.mv (.t 42)),none⟩])
    (.seq (.ops [⟨(some 44),(.mv (.t 11)),none⟩,
      ⟨(some 45),(.mv (.t 12)),none⟩,
      ⟨(some 46),(.bin .gtr (.t 44) (.t 45)),none⟩,
      ⟨(some 43),(.mv (.t 46)),none⟩])
    (.cond (.t 43)
      (.ops [⟨(some 47),(.mv (.t 9)),none⟩,
        ⟨(some 48),(.bin .add (.t 47) (.k (I 1))),none⟩,
        ⟨(some 9),(.mv (.t 48)),none⟩])
      .skip))))))))))
  (.ops [⟨(some 49),(.bin .add (.t 15) (.k (I 1))),none⟩,
    ⟨(some 15),(.mv (.t 49)),none⟩]))))
theorem w67L0 {x : Cx} {Q : QT} {ks : List Kont} {fr : Fr} {H : AHeap} {ms : List Nat} : W x Q c67L0 ks fr H ms = W x Q (.seq (.ops [⟨(some 16),(.bin .lss (.t 15) (.t 14)),none⟩])
    (.seq (.cond (.t 16)
      .skip
      (.exit 0))
    (.seq (.block 1 (.seq (.ops [⟨(some 17),(.mv (.t 15)),none⟩,
      ⟨(some 10),(.mv (.t 17)),none⟩])
    (.seq (.seq (.ops [⟨(some 18),(.mv (.t 1)),none⟩,
      ⟨(some 19),(.mv (.t 10)),none⟩,
      ⟨(some 20),(.bin .shr (.t 18) (.t 19)),none⟩,
      ⟨(some 21),(.bin .and (.t 20) (.k (I 1))),none⟩,
      ⟨(some 22),(.bin .eql (.t 21) (.k (I 0))),none⟩])
    (.cond (.t 22)
      (.exit 1)
      .skip))
    (.seq (.draw 0 [] (.early 1 ⟨(some 23),(.mv (.t 0)),none⟩
      (.early 1 ⟨(some 24),(.mv (.t 10)),none⟩
      (.early 1 ⟨(some 25),(.mv (.t 2)),none⟩
      (.early 1 ⟨(some 26),(.mv (.t 10)),none⟩
      (.early 1 ⟨(some 27),(.ixS 1 (.t 25) (.t 26)),none⟩
      (.early 1 ⟨(some 28),(.load false 1 (.t 27)),none⟩
      (.early 1 ⟨(some 29),(.call (.k (.fn (.func 61) [] [])) [(.t 23),(.t 24),(.t 28)]),none⟩
      (.early 1 ⟨(some 30),(.mv (.t 0)),none⟩
      (.early 1 ⟨(some 31),(.mv (.t 10)),none⟩
      (.early 1 ⟨(some 32),(.mv (.t 3)),none⟩
      (.early 1 ⟨(some 33),(.mv (.t 10)),none⟩
      (.early 1 ⟨(some 34),(.ixS 1 (.t 32) (.t 33)),none⟩
      (.early 1 ⟨(some 35),(.load false 1 (.t 34)),none⟩
      (.step 0 0 ⟨(some 36),(.call (.k (.fn (.func 61) [] [])) [(.t 30),(.t 31),(.t 35)]),none⟩
      (.early 0 ⟨(some 11),(.mv (.t 29)),none⟩
      (.early 0 ⟨(some 12),(.mv (.t 36)),none⟩
      .done)))))))))))))))))
    (.keep [0,1,2,3,8,9,11,12,14,15] (.block 2 (.seq (.ops [⟨(some 38),(.mv (.t 11)),none⟩,
      ⟨(some 39),(.mv (.t 12)),none⟩,
      ⟨(some 40),(.bin .lss (.t 38) (.t 39)),none⟩,
      ⟨(some 37),(.mv (.t 40)),none⟩])
    (.cond (.t 37)
      (.ops [⟨(some 41),(.mv (.t 8)),none⟩,
        ⟨(some 42),(.bin .add (.t 41) (.k (I 1))),none⟩,
        ⟨(some 8),(.mv (.t 42)),none⟩])
      (.seq (.ops [⟨(some 44),(.mv (.t 11)),none⟩,
        ⟨(some 45),(.mv (.t 12)),none⟩,
        ⟨(some 46),(.bin .gtr (.t 44) (.t 45)),none⟩,
        ⟨(some 43),(.mv (.t 46)),none⟩])
      (.cond (.t 43)
        (.ops [⟨(some 47),(.mv (.t 9)),none⟩,
          ⟨(some 48),(.bin .add (.t 47) (.k (I 1))),none⟩,
          ⟨(some 9),(.mv (.t 48)),none⟩])
        .skip))))))))))
    (.ops [⟨(some 49),(.bin .add (.t 15) (.k (I 1))),none⟩,
      ⟨(some 15),(.mv (.t 49)),none⟩])))) ks fr H ms := rfl
def c67 : ICode :=
  (.seq (.ops [⟨(some 8),(.mv (.k (I 0))),none⟩,
    ⟨(some 9),(.mv (.k (I 0))),none⟩])
  (.seq (.seq (.ops [⟨(some 13),(.mv (.t 0)),none⟩,
    ⟨(some 14),(.len (.t 13)),none⟩,
    ⟨(some 15),(.mv (.k (I 0))),none⟩])
  (.block 0 (.loop c67L0)))
  c67T1))
theorem w67 {x : Cx} {Q : QT} {ks : List Kont} {fr : Fr} {H : AHeap} {ms : List Nat} : W x Q c67 ks fr H ms = W x Q (.seq (.ops [⟨(some 8),(.mv (.k (I 0))),none⟩,
      ⟨(some 9),(.mv (.k (I 0))),none⟩])
    (.seq (.seq (.ops [⟨(some 13),(.mv (.t 0)),none⟩,
      ⟨(some 14),(.len (.t 13)),none⟩,
      ⟨(some 15),(.mv (.k (I 0))),none⟩])
    (.block 0 (.loop c67L0)))
    c67T1)) ks fr H ms := rfl
def r67 : List IRes := [(.tmp 8),(.tmp 9)]
theorem t67 : Try.f67.body.bind (trCode Try.prog Try.f67.ntmps) = some (strip c67) := by kernel_rfl
theorem q67 : trRes Try.prog Try.f67.results.toList = some r67 := by kernel_rfl
theorem fn67 : Try.prog.funcs[67]? = some Try.f67 := by kernel_rfl
theorem nn67 : (Try.f67.name == "runtime.NumGoroutine") = false := by kernel_rfl
theorem nt67 : Try.f67.ntmps = 52 := by kernel_rfl
/- live: [0,1,7,8,9,16,17,18,22,23,24] -/
/- live: [0,1,16,17,18] -/
/- live: [0,1,2,8] -/
/- live: [0,1,2,3,4,5,6,37,38] -/
/- live: [0,1,2,3,4,5,6] -/
end Go.Proofs.Ytkmmngphcodjjaa
namespace Go.Proofs.Ytkmmngphcodjjaa
open Go.Abs AVal
/- live: [1,2,15,16,17] -/
/- live: [0,3,10,11,12] -/
/- live: [0,1,18,24,158,159,160,172,173,174] -/
/- live: [0,1,18,158,159,160] -/
/- live: [0,1,14,16,18,138,139,140] -/
/- live: [0,1,7,8,49,50,51,56,57,58] -/
/- live: [0,1,7,49,50,51] -/
/- live: [0,1,5,60,61,62] -/
def c11T1 : ICode :=
  (.keep [] (.seq (.ops [⟨(some 168),(.call (.k (.fn (.func 19) [] [])) []),none⟩,
    ⟨(some 6),(.mv (.t 168)),none⟩])
  .ret))
theorem w11T1 {x : Cx} {Q : QT} {ks : List Kont} {fr : Fr} {H : AHeap} {ms : List Nat} : W x Q c11T1 ks fr H ms = W x Q (.keep [] (.seq (.ops [⟨(some 168),(.call (.k (.fn (.func 19) [] [])) []),none⟩,
      ⟨(some 6),(.mv (.t 168)),none⟩])
    .ret)) ks fr H ms := rfl
/- live: [0,2,148,149,150] -/
def c11L0 : ICode :=
  (.seq (.ops [⟨(some 151),(.bin .lss (.t 150) (.t 149)),none⟩])
  (.seq (.cond (.t 151)
    .skip
    (.exit 0))
  (.seq (.block 1 (.seq (.ops [⟨(some 152),(.mv (.t 150)),none⟩,
    ⟨(some 153),(.ixS 1 (.t 148) (.t 150)),none⟩,
    ⟨(some 154),(.load false 1 (.t 153)),none⟩,
    ⟨(some 22),(.mv (.t 152)),none⟩,
    ⟨(some 23),(.mv (.t 154)),none⟩])
  (.seq (.draw 0 [] (.early 1 ⟨(some 155),(.mv (.t 0)),none⟩
    (.early 1 ⟨(some 156),(.mv (.t 22)),none⟩
    (.early 1 ⟨(some 157),(.mv (.t 23)),none⟩
    (.early 1 ⟨(some 158),(.call (.k (.fn (.func 24) [] [])) [(.t 155),(.t 156),(.t 157)]),none⟩
    (.early 1 ⟨(some 159),(.mv (.t 0)),none⟩
    (.early 1 ⟨(some 160),(.mv (.t 22)),none⟩
    (.early 1 ⟨(some 161),(.mv (.t 2)),none⟩
    (.early 1 ⟨(some 162),(.mv (.t 22)),none⟩
    (.early 1 ⟨(some 163),(.ixS 1 (.t 161) (.t 162)),none⟩
    (.early 1 ⟨(some 164),(.load false 1 (.t 163)),none⟩
    (.step 0 0 ⟨(some 165),(.call (.k (.fn (.func 24) [] [])) [(.t 159),(.t 160),(.t 164)]),none⟩
    (.early 0 ⟨(some 166),(.bin .gtr (.t 158) (.t 165)),none⟩
    .done)))))))))))))
  (.keep [0,2,148,149,150,166] (.cond (.t 166)
    (.seq (.ops [⟨(some 6),(.mv (.k (B false))),none⟩])
    .ret)
    .skip)))))
  (.ops [⟨(some 167),(.bin .add (.t 150) (.k (I 1))),none⟩,
    ⟨(some 150),(.mv (.t 167)),none⟩]))))
def c11 : ICode :=
  (.seq (.ops [⟨(some 6),(.mv (.k (B false))),none⟩])
  (.seq (.ops [⟨(some 25),(.mv (.t 0)),none⟩,
    ⟨(some 26),(.call (.k (.fn (.func 16) [] [])) [(.t 25)]),none⟩,
    ⟨(some 27),(.call (.k (.fn (.func 15) [] [])) [(.t 26)]),none⟩,
    ⟨(some 24),(.mv (.t 27)),none⟩,
    ⟨(some 28),(.ext (.t 24) 0),none⟩,
    ⟨(some 29),(.ext (.t 24) 1),none⟩,
    ⟨(some 7),(.mv (.t 28)),none⟩,
    ⟨(some 8),(.mv (.t 29)),none⟩])
  (.seq (.seq (.ops [⟨(some 30),(.mv (.t 8)),none⟩,
    ⟨(some 31),(.bin .neq (.t 30) (.k (I 0))),none⟩,
    ⟨(some 32),(.mv (.t 31)),none⟩,
    ⟨(some 33),(.mv (.t 0)),(some (32,false))⟩,
    ⟨(some 34),(.call (.k (.fn (.func 18) [] [])) [(.t 33)]),(some (32,false))⟩,
    ⟨(some 35),(.un .not (.t 34)),(some (32,false))⟩,
    ⟨(some 36),(.pick (.t 32) (.k (B true)) (.t 35)),none⟩])
  (.cond (.t 36)
    (.seq (.ops [⟨(some 37),(.mv (.t 8)),none⟩,
      ⟨(some 38),(.bin .eql (.t 37) (.k (I 2))),none⟩,
      ⟨(some 39),(.mv (.t 38)),none⟩,
      ⟨(some 40),(.call (.k (.fn (.func 19) [] [])) []),(some (39,true))⟩,
      ⟨(some 41),(.pick (.t 39) (.t 40) (.k (B false))),none⟩,
      ⟨(some 6),(.mv (.t 41)),none⟩])
    .ret)
    .skip))
  (.seq (.seq (.ops [⟨(some 43),(.mv (.t 0)),none⟩,
    ⟨(some 44),(.call (.k (.fn (.func 16) [] [])) [(.t 43)]),none⟩,
    ⟨(some 45),(.mv (.t 7)),none⟩,
    ⟨(some 46),(.call (.k (.fn (.func 39) [] [])) [(.t 44),(.t 45)]),none⟩,
    ⟨(some 42),(.mv (.t 46)),none⟩,
    ⟨(some 47),(.ext (.t 42) 0),none⟩,
    ⟨(some 48),(.ext (.t 42) 1),none⟩,
    ⟨(some 9),(.mv (.t 47)),none⟩,
    ⟨(some 10),(.mv (.t 48)),none⟩])
  (.seq (.ops [⟨(some 49),(.mv (.t 10)),none⟩,
    ⟨(some 50),(.bin .neq (.t 49) (.k (I 4))),none⟩])
  (.cond (.t 50)
    (.seq (.ops [⟨(some 6),(.mv (.k (B false))),none⟩])
    .ret)
    .skip)))
  (.seq (.seq (.ops [⟨(some 51),(.mv (.t 1)),none⟩,
    ⟨(some 52),(.mv (.t 0)),none⟩,
    ⟨(some 53),(.len (.t 52)),none⟩,
    ⟨(some 54),(.call (.k (.fn (.func 23) [] [])) [(.t 51),(.t 53)]),none⟩])
  (.cond (.t 54)
    (.seq (.ops [⟨(some 56),(.mv (.t 0)),none⟩,
      ⟨(some 57),(.call (.k (.fn (.func 16) [] [])) [(.t 56)]),none⟩,
      ⟨(some 58),(.mv (.t 1)),none⟩,
      ⟨(some 59),(.call (.k (.fn (.func 27) [] [])) [(.t 58)]),none⟩,
      ⟨(some 60),(.call (.k (.fn (.func 30) [] [])) [(.t 57),(.t 59)]),none⟩,
      ⟨(some 55),(.mv (.t 60)),none⟩,
      ⟨(some 61),(.ext (.t 55) 0),none⟩,
      ⟨(some 62),(.ext (.t 55) 1),none⟩,
      ⟨(some 11),(.mv (.t 61)),none⟩,
      ⟨(some 12),(.mv (.t 62)),none⟩])
    (.seq (.seq (.ops [⟨(some 63),(.mv (.t 12)),none⟩,
      ⟨(some 64),(.bin .neq (.t 63) (.k (I 0))),none⟩])
    (.cond (.t 64)
      (.seq (.ops [⟨(some 6),(.mv (.k (B false))),none⟩])
      .ret)
      .skip))
    (.seq (.ops [⟨(some 66),(.mv (.t 0)),none⟩,
      ⟨(some 67),(.call (.k (.fn (.func 16) [] [])) [(.t 66)]),none⟩,
      ⟨(some 68),(.mv (.t 11)),none⟩,
      ⟨(some 69),(.call (.k (.fn (.func 43) [] [])) [(.t 68)]),none⟩,
      ⟨(some 70),(.call (.k (.fn (.func 39) [] [])) [(.t 67),(.t 69)]),none⟩,
      ⟨(some 65),(.mv (.t 70)),none⟩,
      ⟨(some 71),(.ext (.t 65) 0),none⟩,
      ⟨(some 72),(.ext (.t 65) 1),none⟩,
      ⟨(some 13),(.mv (.t 71)),none⟩,
      ⟨(some 14),(.mv (.t 72)),none⟩])
    (.seq (.ops [⟨(some 74),(.mv (.t 0)),none⟩,
      ⟨(some 75),(.call (.k (.fn (.func 16) [] [])) [(.t 74)]),none⟩,
      ⟨(some 76),(.mv (.t 11)),none⟩,
      ⟨(some 77),(.call (.k (.fn (.func 43) [] [])) [(.t 76)]),none⟩,
      ⟨(some 78),(.call (.k (.fn (.func 31) [] [])) [(.t 75),(.t 77)]),none⟩,
      ⟨(some 73),(.mv (.t 78)),none⟩,
      ⟨(some 79),(.ext (.t 73) 0),none⟩,
      ⟨(some 80),(.ext (.t 73) 1),none⟩,
      ⟨(some 15),(.mv (.t 79)),none⟩,
      ⟨(some 16),(.mv (.t 80)),none⟩])
    (.seq (.seq (.ops [⟨(some 81),(.mv (.t 14)),none⟩,
      ⟨(some 82),(.bin .neq (.t 81) (.k (I 4))),none⟩,
      ⟨(some 83),(.mv (.t 82)),none⟩,
      ⟨(some 84),(.mv (.t 16)),(some (83,false))⟩,
      ⟨(some 85),(.bin .neq (.t 84) (.k (I 0))),(some (83,false))⟩,
      ⟨(some 86),(.pick (.t 83) (.k (B true)) (.t 85)),none⟩,
      ⟨(some 87),(.mv (.t 86)),none⟩,
      ⟨(some 88),(.mv (.t 15)),(some (87,false))⟩,
      ⟨(some 89),(.mv (.t 1)),(some (87,false))⟩,
      ⟨(some 90),(.call (.k (.fn (.func 45) [] [])) [(.t 88),(.t 89)]),(some (87,false))⟩,
      ⟨(some 91),(.bin .gtr (.t 90) (.k (I 0))),(some (87,false))⟩,
      ⟨(some 92),(.pick (.t 87) (.k (B true)) (.t 91)),none⟩])
    (.cond (.t 92)
      (.seq (.ops [⟨(some 6),(.mv (.k (B false))),none⟩])
      .ret)
      .skip))
    (.seq (.ops [⟨(some 94),(.mv (.t 0)),none⟩,
      ⟨(some 95),(.call (.k (.fn (.func 16) [] [])) [(.t 94)]),none⟩,
      ⟨(some 96),(.mv (.t 15)),none⟩,
      ⟨(some 97),(.call (.k (.fn (.func 30) [] [])) [(.t 95),(.t 96)]),none⟩,
      ⟨(some 93),(.mv (.t 97)),none⟩,
      ⟨(some 98),(.ext (.t 93) 0),none⟩,
      ⟨(some 99),(.ext (.t 93) 1),none⟩,
      ⟨(some 17),(.mv (.t 98)),none⟩,
      ⟨(some 12),(.mv (.t 99)),none⟩])
    (.seq (.ops [⟨(some 100),(.mv (.t 12)),none⟩,
      ⟨(some 101),(.bin .neq (.t 100) (.k (I 0))),none⟩,
      ⟨(some 102),(.mv (.t 101)),none⟩,
      ⟨(some 103),(.mv (.t 17)),(some (102,false))⟩,
      ⟨(some 104),(.mv (.t 11)),(some (102,false))⟩,
      ⟨(some 105),(.call (.k (.fn (.func 20) [] [])) [(.t 103),(.t 104)]),(some (102,false))⟩,
      ⟨(some 106),(.un .not (.t 105)),(some (102,false))⟩,
      ⟨(some 107),(.pick (.t 102) (.k (B true)) (.t 106)),none⟩])
    (.cond (.t 107)
      (.seq (.ops [⟨(some 6),(.mv (.k (B false))),none⟩])
      .ret)
      .skip))))))))
    .skip))
  (.seq (.seq (.ops [⟨(some 108),(.mv (.t 2)),none⟩,
    ⟨(some 109),(.mv (.t 0)),none⟩,
    ⟨(some 110),(.len (.t 109)),none⟩,
    ⟨(some 111),(.call (.k (.fn (.func 23) [] [])) [(.t 108),(.t 110)]),none⟩,
    ⟨(some 112),(.un .not (.t 111)),none⟩])
  (.cond (.t 112)
    (.seq (.ops [⟨(some 113),(.call (.k (.fn (.func 19) [] [])) []),none⟩,
      ⟨(some 6),(.mv (.t 113)),none⟩])
    .ret)
    .skip))
  (.seq (.ops [⟨(some 115),(.mv (.t 0)),none⟩,
    ⟨(some 116),(.call (.k (.fn (.func 16) [] [])) [(.t 115)]),none⟩,
    ⟨(some 117),(.mv (.t 2)),none⟩,
    ⟨(some 118),(.call (.k (.fn (.func 27) [] [])) [(.t 117)]),none⟩,
    ⟨(some 119),(.call (.k (.fn (.func 31) [] [])) [(.t 116),(.t 118)]),none⟩,
    ⟨(some 114),(.mv (.t 119)),none⟩,
    ⟨(some 120),(.ext (.t 114) 0),none⟩,
    ⟨(some 121),(.ext (.t 114) 1),none⟩,
    ⟨(some 18),(.mv (.t 120)),none⟩,
    ⟨(some 19),(.mv (.t 121)),none⟩])
  (.seq (.ops [⟨(some 123),(.mv (.t 0)),none⟩,
    ⟨(some 124),(.call (.k (.fn (.func 16) [] [])) [(.t 123)]),none⟩,
    ⟨(some 125),(.mv (.t 2)),none⟩,
    ⟨(some 126),(.call (.k (.fn (.func 27) [] [])) [(.t 125)]),none⟩,
    ⟨(some 127),(.call (.k (.fn (.func 39) [] [])) [(.t 124),(.t 126)]),none⟩,
    ⟨(some 122),(.mv (.t 127)),none⟩,
    ⟨(some 128),(.ext (.t 122) 0),none⟩,
    ⟨(some 129),(.ext (.t 122) 1),none⟩,
    ⟨(some 20),(.mv (.t 128)),none⟩,
    ⟨(some 21),(.mv (.t 129)),none⟩])
  (.seq (.seq (.ops [⟨(some 130),(.mv (.t 19)),none⟩,
    ⟨(some 131),(.bin .eql (.t 130) (.k (I 0))),none⟩,
    ⟨(some 132),(.mv (.t 21)),none⟩,
    ⟨(some 133),(.bin .eql (.t 132) (.k (I 4))),none⟩,
    ⟨(some 134),(.eqb true (.t 131) (.t 133)),none⟩])
  (.cond (.t 134)
    (.seq (.ops [⟨(some 6),(.mv (.k (B false))),none⟩])
    .ret)
    .skip))
  (.seq (.seq (.ops [⟨(some 135),(.mv (.t 21)),none⟩,
    ⟨(some 136),(.bin .neq (.t 135) (.k (I 0))),none⟩])
  (.cond (.t 136)
    (.seq (.ops [⟨(some 137),(.call (.k (.fn (.func 19) [] [])) []),none⟩,
      ⟨(some 6),(.mv (.t 137)),none⟩])
    .ret)
    .skip))
  (.seq (.seq (.ops [⟨(some 138),(.mv (.t 20)),none⟩,
    ⟨(some 139),(.mv (.t 0)),none⟩,
    ⟨(some 140),(.len (.t 139)),none⟩,
    ⟨(some 141),(.call (.k (.fn (.func 23) [] [])) [(.t 138),(.t 140)]),none⟩,
    ⟨(some 142),(.un .not (.t 141)),none⟩,
    ⟨(some 143),(.mv (.t 142)),none⟩,
    ⟨(some 144),(.mv (.t 20)),(some (143,false))⟩,
    ⟨(some 145),(.mv (.t 2)),(some (143,false))⟩,
    ⟨(some 146),(.call (.k (.fn (.func 20) [] [])) [(.t 144),(.t 145)]),(some (143,false))⟩,
    ⟨(some 147),(.pick (.t 143) (.k (B true)) (.t 146)),none⟩])
  (.cond (.t 147)
    (.seq (.ops [⟨(some 6),(.mv (.k (B false))),none⟩])
    .ret)
    .skip))
  (.seq (.seq (.ops [⟨(some 148),(.mv (.t 20)),none⟩,
    ⟨(some 149),(.len (.t 148)),none⟩,
    ⟨(some 150),(.mv (.k (I 0))),none⟩])
  (.block 0 (.loop c11L0)))
  c11T1))))))))))))
theorem w11 {x : Cx} {Q : QT} {ks : List Kont} {fr : Fr} {H : AHeap} {ms : List Nat} : W x Q c11 ks fr H ms = W x Q (.seq (.ops [⟨(some 6),(.mv (.k (B false))),none⟩])
    (.seq (.ops [⟨(some 25),(.mv (.t 0)),none⟩,
      ⟨(some 26),(.call (.k (.fn (.func 16) [] [])) [(.t 25)]),none⟩,
      ⟨(some 27),(.call (.k (.fn (.func 15) [] [])) [(.t 26)]),none⟩,
      ⟨(some 24),(.mv (.t 27)),none⟩,
      ⟨(some 28),(.ext (.t 24) 0),none⟩,
      ⟨(some 29),(.ext (.t 24) 1),none⟩,
      ⟨(some 7),(.mv (.t 28)),none⟩,
      ⟨(some 8),(.mv (.t 29)),none⟩])
    (.seq (.seq (.ops [⟨(some 30),(.mv (.t 8)),none⟩,
      ⟨(some 31),(.bin .neq (.t 30) (.k (I 0))),none⟩,
      ⟨(some 32),(.mv (.t 31)),none⟩,
      ⟨(some 33),(.mv (.t 0)),(some (32,false))⟩,
      ⟨(some 34),(.call (.k (.fn (.func 18) [] [])) [(.t 33)]),(some (32,false))⟩,
      ⟨(some 35),(.un .not (.t 34)),(some (32,false))⟩,
      ⟨(some 36),(.pick (.t 32) (.k (B true)) (.t 35)),none⟩])
    (.cond (.t 36)
      (.seq (.ops [⟨(some 37),(.mv (.t 8)),none⟩,
        ⟨(some 38),(.bin .eql (.t 37) (.k (I 2))),none⟩,
        ⟨(some 39),(.mv (.t 38)),none⟩,
        ⟨(some 40),(.call (.k (.fn (.func 19) [] [])) []),(some (39,true))⟩,
        ⟨(some 41),(.pick (.t 39) (.t 40) (.k (B false))),none⟩,
        ⟨(some 6),(.mv (.t 41)),none⟩])
      .ret)
      .skip))
    (.seq (.seq (.ops [⟨(some 43),(.mv (.t 0)),none⟩,
      ⟨(some 44),(.call (.k (.fn (.func 16) [] [])) [(.t 43)]),none⟩,
      ⟨(some 45),(.mv (.t 7)),none⟩,
      ⟨(some 46),(.call (.k (.fn (.func 39) [] [])) [(.t 44),(.t 45)]),none⟩,
      ⟨(some 42),(.mv (.t 46)),none⟩,
      ⟨(some 47),(.ext (.t 42) 0),none⟩,
      ⟨(some 48),(.ext (.t 42) 1),none⟩,
      ⟨(some 9),(.mv (.t 47)),none⟩,
      ⟨(some 10),(.mv (.t 48)),none⟩])
    (.seq (.ops [⟨(some 49),(.mv (.t 10)),none⟩,
      ⟨(some 50),(.bin .neq (.t 49) (.k (I 4))),none⟩])
    (.cond (.t 50)
      (.seq (.ops [⟨(some 6),(.mv (.k (B false))),none⟩])
      .ret)
      .skip)))
    (.seq (.seq (.ops [⟨(some 51),(.mv (.t 1)),none⟩,
      ⟨(some 52),(.mv (.t 0)),none⟩,
      ⟨(some 53),(.len (.t 52)),none⟩,
      ⟨(some 54),(.call (.k (.fn (.func 23) [] [])) [(.t 51),(.t 53)]),none⟩])
    (.cond (.t 54)
      (.seq (.ops [⟨(some 56),(.mv (.t 0)),none⟩,
        ⟨(some 57),(.call (.k (.fn (.func 16) [] [])) [(.t 56)]),none⟩,
        ⟨(some 58),(.mv (.t 1)),none⟩,
        ⟨(some 59),(.call (.k (.fn (.func 27) [] [])) [(.t 58)]),none⟩,
        ⟨(some 60),(.call (.k (.fn (.func 30) [] [])) [(.t 57),(.t 59)]),none⟩,
        ⟨(some 55),(.mv (.t 60)),none⟩,
        ⟨(some 61),(.ext (.t 55) 0),none⟩,
        ⟨(some 62),(.ext (.t 55) 1),none⟩,
        ⟨(some 11),(.mv (.t 61)),none⟩,
        ⟨(some 12),(.mv (.t 62)),none⟩])
      (.seq (.seq (.ops [⟨(some 63),(.mv (.t 12)),none⟩,
        ⟨(some 64),(.bin .neq (.t 63) (.k (I 0))),none⟩])
      (.cond (.t 64)
        (.seq (.ops [⟨(some 6),(.mv (.k (B false))),none⟩])
        .ret)
        .skip))
      (.seq (.ops [⟨(some 66),(.mv (.t 0)),none⟩,
        ⟨(some 67),(.call (.k (.fn (.func 16) [] [])) [(.t 66)]),none⟩,
        ⟨(some 68),(.mv (.t 11)),none⟩,
        ⟨(some 69),(.call (.k (.fn (.func 43) [] [])) [(.t 68)]),none⟩,
        ⟨(some 70),(.call (.k (.fn (.func 39) [] [])) [(.t 67),(.t 69)]),none⟩,
        ⟨(some 65),(.mv (.t 70)),none⟩,
        ⟨(some 71),(.ext (.t 65) 0),none⟩,
        ⟨(some 72),(.ext (.t 65) 1),none⟩,
        ⟨(some 13),(.mv (.t 71)),none⟩,
        ⟨(some 14),(.mv (.t 72)),none⟩])
      (.seq (.ops [⟨(some 74),(.mv (.t 0)),none⟩,
        ⟨(some 75),(.call (.k (.fn (.func 16) [] [])) [(.t 74)]),none⟩,
        ⟨(some 76),(.mv (.t 11)),none⟩,
        ⟨(some 77),(.call (.k (.fn (.func 43) [] [])) [(.t 76)]),none⟩,
        ⟨(some 78),(.call (.k (.fn (.func 31) [] [])) [(.t 75),(.t 77)]),none⟩,
        ⟨(some 73),(.mv (.t 78)),none⟩,
        ⟨(some 79),(.ext (.t 73) 0),none⟩,
        ⟨(some 80),(.ext (.t 73) 1),none⟩,
        ⟨(some 15),(.mv (.t 79)),none⟩,
        ⟨(some 16),(.mv (.t 80)),none⟩])
      (.seq (.seq (.ops [⟨(some 81),(.mv (.t 14)),none⟩,
        ⟨(some 82),(.bin .neq (.t 81) (.k (I 4))),none⟩,
        ⟨(some 83),(.mv (.t 82)),none⟩,
        ⟨(some 84),(.mv (.t 16)),(some (83,false))⟩,
        ⟨(some 85),(.bin .neq (.t 84) (.k (I 0))),(some (83,false))⟩,
        ⟨(some 86),(.pick (.t 83) (.k (B true)) (.t 85)),none⟩,
        ⟨(some 87),(.mv (.t 86)),none⟩,
        ⟨(some 88),(.mv (.t 15)),(some (87,false))⟩,
        ⟨(some 89),(.mv (.t 1)),(some (87,false))⟩,
        ⟨(some 90),(.call (.k (.fn (.func 45) [] [])) [(.t 88),(.t 89)]),(some (87,false))⟩,
        ⟨(some 91),(.bin .gtr (.t 90) (.k (I 0))),(some (87,false))⟩,
        ⟨(some 92),(.pick (.t 87) (.k (B true)) (.t 91)),none⟩])
      (.cond (.t 92)
        (.seq (.ops [⟨(some 6),(.mv (.k (B false))),none⟩])
        .ret)
        .skip))
      (.seq (.ops [⟨(some 94),(.mv (.t 0)),none⟩,
        ⟨(some 95),(.call (.k (.fn (.func 16) [] [])) [(.t 94)]),none⟩,
        ⟨(some 96),(.mv (.t 15)),none⟩,
        ⟨(some 97),(.call (.k (.fn (.func 30) [] [])) [(.t 95),(.t 96)]),none⟩,
        ⟨(some 93),(.mv (.t 97)),none⟩,
        ⟨(some 98),(.ext (.t 93) 0),none⟩,
        ⟨(some 99),(.ext (.t 93) 1),none⟩,
        ⟨(some 17),(.mv (.t 98)),none⟩,
        ⟨(some 12),(.mv (.t 99)),none⟩])
      (.seq (.ops [⟨(some 100),(.mv (.t 12)),none⟩,
        ⟨(some 101),(.bin .neq (.t 100) (.k (I 0))),none⟩,
        ⟨(some 102),(.mv (.t 101)),none⟩,
        ⟨(some 103),(.mv (.t 17)),(some (102,false))⟩,
        ⟨(some 104),(.mv (.t 11)),(some (102,false))⟩,
        ⟨(some 105),(.call (.k (.fn (.func 20) [] [])) [(.t 103),(.t 104)]),(some (102,false))⟩,
        ⟨(some 106),(.un .not (.t 105)),(some (102,false))⟩,
        ⟨(some 107),(.pick (.t 102) (.k (B true)) (.t 106)),none⟩])
      (.cond (.t 107)
        (.seq (.ops [⟨(some 6),(.mv (.k (B false))),none⟩])
        .ret)
        .skip))))))))
      .skip))
    (.seq (.seq (.ops [⟨(some 108),(.mv (.t 2)),none⟩,
      ⟨(some 109),(.mv (.t 0)),none⟩,
      ⟨(some 110),(.len (.t 109)),none⟩,
      ⟨(some 111),(.call (.k (.fn (.func 23) [] [])) [(.t 108),(.t 110)]),none⟩,
      ⟨(some 112),(.un .not (.t 111)),none⟩])
    (.cond (.t 112)
      (.seq (.ops [⟨(some 113),(.call (.k (.fn (.func 19) [] [])) []),none⟩,
        ⟨(some 6),(.mv (.t 113)),none⟩])
      .ret)
      .skip))
    (.seq (.ops [⟨(some 115),(.mv (.t 0)),none⟩,
      ⟨(some 116),(.call (.k (.fn (.func 16) [] [])) [(.t 115)]),none⟩,
      ⟨(some 117),(.mv (.t 2)),none⟩,
      ⟨(some 118),(.call (.k (.fn (.func 27) [] [])) [(.t 117)]),none⟩,
      ⟨(some 119),(.call (.k (.fn (.func 31) [] [])) [(.t 116),(.t 118)]),none⟩,
      ⟨(some 114),(.mv (.t 119)),none⟩,
      ⟨(some 120),(.ext (.t 114) 0),none⟩,
      ⟨(some 121),(.ext (.t 114) 1),none⟩,
      ⟨(some 18),(.mv (.t 120)),none⟩,
      ⟨(some 19),(.mv (.t 121)),none⟩])
    (.seq (.ops [⟨(some 123),(.mv (.t 0)),none⟩,
      ⟨(some 124),(.call (.k (.fn (.func 16) [] [])) [(.t 123)]),none⟩,
      ⟨(some 125),(.mv (.t 2)),none⟩,
      ⟨(some 126),(.call (.k (.fn (.func 27) [] [])) [(.t 125)]),none⟩,
      ⟨(some 127),(.call (.k (.fn (.func 39) [] [])) [(.t 124),(.t 126)]),none⟩,
      ⟨(some 122),(.mv (.t 127)),none⟩,
      ⟨(some 128),(.ext (.t 122) 0),none⟩,
      ⟨(some 129),(.ext (.t 122) 1),none⟩,
      ⟨(some 20),(.mv (.t 128)),none⟩,
      ⟨(some 21),(.mv (.t 129)),none⟩])
    (.seq (.seq (.ops [⟨(some 130),(.mv (.t 19)),none⟩,
      ⟨(some 131),(.bin .eql (.t 130) (.k (I 0))),none⟩,
      ⟨(some 132),(.mv (.t 21)),none⟩,
      ⟨(some 133),(.bin .eql (.t 132) (.k (I 4))),none⟩,
      ⟨(some 134),(.eqb true (.t 131) (.t 133)),none⟩])
    (.cond (.t 134)
      (.seq (.ops [⟨(some 6),(.mv (.k (B false))),none⟩])
      .ret)
      .skip))
    (.seq (.seq (.ops [⟨(some 135),(.mv (.t 21)),none⟩,
      ⟨(some 136),(.bin .neq (.t 135) (.k (I 0))),none⟩])
    (.cond (.t 136)
      (.seq (.ops [⟨(some 137),(.call (.k (.fn (.func 19) [] [])) []),none⟩,
        ⟨(some 6),(.mv (.t 137)),none⟩])
      .ret)
      .skip))
    (.seq (.seq (.ops [⟨(some 138),(.mv (.t 20)),none⟩,
      ⟨(some 139),(.mv (.t 0)),none⟩,
      ⟨(some 140),(.len (.t 139)),none⟩,
      ⟨(some 141),(.call (.k (.fn (.func 23) [] [])) [(.t 138),(.t 140)]),none⟩,
      ⟨(some 142),(.un .not (.t 141)),none⟩,
      ⟨(some 143),(.mv (.t 142)),none⟩,
      ⟨(some 144),(.mv (.t 20)),(some (143,false))⟩,
      ⟨(some 145),(.mv (.t 2)),(some (143,false))⟩,
      ⟨(some 146),(.call (.k (.fn (.func 20) [] [])) [(.t 144),(.t 145)]),(some (143,false))⟩,
      ⟨(some 147),(.pick (.t 143) (.k (B true)) (.t 146)),none⟩])
    (.cond (.t 147)
      (.seq (.ops [⟨(some 6),(.mv (.k (B false))),none⟩])
      .ret)
      .skip))
    (.seq (.seq (.ops [⟨(some 148),(.mv (.t 20)),none⟩,
      ⟨(some 149),(.len (.t 148)),none⟩,
      ⟨(some 150),(.mv (.k (I 0))),none⟩])
    (.block 0 (.loop c11L0)))
    c11T1)))))))))))) ks fr H ms := rfl
def r11 : List IRes := [(.tmp 6)]
theorem t11 : Try.f11.body.bind (trCode Try.prog Try.f11.ntmps) = some (strip c11) := by kernel_rfl
theorem q11 : trRes Try.prog Try.f11.results.toList = some r11 := by kernel_rfl
theorem fn11 : Try.prog.funcs[11]? = some Try.f11 := by kernel_rfl
theorem nn11 : (Try.f11.name == "runtime.NumGoroutine") = false := by kernel_rfl
theorem nt11 : Try.f11.ntmps = 169 := by kernel_rfl
def c45T1 : ICode :=
  (.keep [0,1] (.seq (.seq (.ops [⟨(some 31),(.mv (.t 0)),none⟩,
    ⟨(some 32),(.len (.t 31)),none⟩,
    ⟨(some 33),(.mv (.t 1)),none⟩,
    ⟨(some 34),(.len (.t 33)),none⟩,
    ⟨(some 35),(.bin .lss (.t 32) (.t 34)),none⟩])
  (.cond (.t 35)
    (.seq (.ops [⟨(some 4),(.mv (.k (I (-1)))),none⟩])
    .ret)
    .skip))
  (.seq (.ops [⟨(some 4),(.mv (.k (I 0))),none⟩])
  .ret)))
theorem w45T1 {x : Cx} {Q : QT} {ks : List Kont} {fr : Fr} {H : AHeap} {ms : List Nat} : W x Q c45T1 ks fr H ms = W x Q (.keep [0,1] (.seq (.seq (.ops [⟨(some 31),(.mv (.t 0)),none⟩,
      ⟨(some 32),(.len (.t 31)),none⟩,
      ⟨(some 33),(.mv (.t 1)),none⟩,
      ⟨(some 34),(.len (.t 33)),none⟩,
      ⟨(some 35),(.bin .lss (.t 32) (.t 34)),none⟩])
    (.cond (.t 35)
      (.seq (.ops [⟨(some 4),(.mv (.k (I (-1)))),none⟩])
      .ret)
      .skip))
    (.seq (.ops [⟨(some 4),(.mv (.k (I 0))),none⟩])
    .ret))) ks fr H ms := rfl
/- live: [0,1,9,10,11] -/
def c45L0 : ICode :=
  (.seq (.ops [⟨(some 12),(.bin .lss (.t 11) (.t 10)),none⟩])
  (.seq (.cond (.t 12)
    .skip
    (.exit 0))
  (.seq (.block 1 (.seq (.ops [⟨(some 13),(.mv (.t 11)),none⟩,
    ⟨(some 14),(.ixS 1 (.t 9) (.t 11)),none⟩,
    ⟨(some 15),(.load false 1 (.t 14)),none⟩,
    ⟨(some 5),(.mv (.t 13)),none⟩,
    ⟨(some 6),(.mv (.t 15)),none⟩])
  (.seq (.seq (.ops [⟨(some 16),(.mv (.t 5)),none⟩,
    ⟨(some 17),(.mv (.t 1)),none⟩,
    ⟨(some 18),(.len (.t 17)),none⟩,
    ⟨(some 19),(.bin .geq (.t 16) (.t 18)),none⟩])
  (.cond (.t 19)
    (.seq (.ops [⟨(some 4),(.mv (.k (I 1))),none⟩])
    .ret)
    .skip))
  (.seq (.ops [⟨(some 20),(.mv (.t 1)),none⟩,
    ⟨(some 21),(.mv (.t 5)),none⟩,
    ⟨(some 22),(.ixS 1 (.t 20) (.t 21)),none⟩,
    ⟨(some 23),(.load false 1 (.t 22)),none⟩,
    ⟨(some 7),(.mv (.t 23)),none⟩])
  (.seq (.ops [⟨(some 24),(.mv (.t 6)),none⟩,
    ⟨(some 25),(.mv (.t 7)),none⟩,
    ⟨(some 26),(.call (.k (.fn (.func 69) [] [])) [(.t 24),(.t 25)]),none⟩,
    ⟨(some 8),(.mv (.t 26)),none⟩])
  (.seq (.ops [⟨(some 27),(.mv (.t 8)),none⟩,
    ⟨(some 28),(.bin .neq (.t 27) (.k (I 0))),none⟩])
  (.cond (.t 28)
    (.seq (.ops [⟨(some 29),(.mv (.t 8)),none⟩,
      ⟨(some 4),(.mv (.t 29)),none⟩])
    .ret)
    .skip)))))))
  (.ops [⟨(some 30),(.bin .add (.t 11) (.k (I 1))),none⟩,
    ⟨(some 11),(.mv (.t 30)),none⟩]))))
theorem w45L0 {x : Cx} {Q : QT} {ks : List Kont} {fr : Fr} {H : AHeap} {ms : List Nat} : W x Q c45L0 ks fr H ms = W x Q (.seq (.ops [⟨(some 12),(.bin .lss (.t 11) (.t 10)),none⟩])
    (.seq (.cond (.t 12)
      .skip
      (.exit 0))
    (.seq (.block 1 (.seq (.ops [⟨(some 13),(.mv (.t 11)),none⟩,
      ⟨(some 14),(.ixS 1 (.t 9) (.t 11)),none⟩,
      ⟨(some 15),(.load false 1 (.t 14)),none⟩,
      ⟨(some 5),(.mv (.t 13)),none⟩,
      ⟨(some 6),(.mv (.t 15)),none⟩])
    (.seq (.seq (.ops [⟨(some 16),(.mv (.t 5)),none⟩,
      ⟨(some 17),(.mv (.t 1)),none⟩,
      ⟨(some 18),(.len (.t 17)),none⟩,
      ⟨(some 19),(.bin .geq (.t 16) (.t 18)),none⟩])
    (.cond (.t 19)
      (.seq (.ops [⟨(some 4),(.mv (.k (I 1))),none⟩])
      .ret)
      .skip))
    (.seq (.ops [⟨(some 20),(.mv (.t 1)),none⟩,
      ⟨(some 21),(.mv (.t 5)),none⟩,
      ⟨(some 22),(.ixS 1 (.t 20) (.t 21)),none⟩,
      ⟨(some 23),(.load false 1 (.t 22)),none⟩,
      ⟨(some 7),(.mv (.t 23)),none⟩])
    (.seq (.ops [⟨(some 24),(.mv (.t 6)),none⟩,
      ⟨(some 25),(.mv (.t 7)),none⟩,
      ⟨(some 26),(.call (.k (.fn (.func 69) [] [])) [(.t 24),(.t 25)]),none⟩,
      ⟨(some 8),(.mv (.t 26)),none⟩])
    (.seq (.ops [⟨(some 27),(.mv (.t 8)),none⟩,
      ⟨(some 28),(.bin .neq (.t 27) (.k (I 0))),none⟩])
    (.cond (.t 28)
      (.seq (.ops [⟨(some 29),(.mv (.t 8)),none⟩,
        ⟨(some 4),(.mv (.t 29)),none⟩])
      .ret)
      .skip)))))))
    (.ops [⟨(some 30),(.bin .add (.t 11) (.k (I 1))),none⟩,
      ⟨(some 11),(.mv (.t 30)),none⟩])))) ks fr H ms := rfl
def c45 : ICode :=
  (.seq (.ops [⟨(some 4),(.mv (.k (I 0))),none⟩])
  (.seq (.seq (.ops [⟨(some 9),(.mv (.t 0)),none⟩,
    ⟨(some 10),(.len (.t 9)),none⟩,
    ⟨(some 11),(.mv (.k (I 0))),none⟩])
  (.block 0 (.loop c45L0)))
  c45T1))
theorem w45 {x : Cx} {Q : QT} {ks : List Kont} {fr : Fr} {H : AHeap} {ms : List Nat} : W x Q c45 ks fr H ms = W x Q (.seq (.ops [⟨(some 4),(.mv (.k (I 0))),none⟩])
    (.seq (.seq (.ops [⟨(some 9),(.mv (.t 0)),none⟩,
      ⟨(some 10),(.len (.t 9)),none⟩,
      ⟨(some 11),(.mv (.k (I 0))),none⟩])
    (.block 0 (.loop c45L0)))
    c45T1)) ks fr H ms := rfl
def r45 : List IRes := [(.tmp 4)]
theorem t45 : Try.f45.body.bind (trCode Try.prog Try.f45.ntmps) = some (strip c45) := by kernel_rfl
theorem q45 : trRes Try.prog Try.f45.results.toList = some r45 := by kernel_rfl
theorem fn45 : Try.prog.funcs[45]? = some Try.f45 := by kernel_rfl
theorem nn45 : (Try.f45.name == "runtime.NumGoroutine") = false := by kernel_rfl
theorem nt45 : Try.f45.ntmps = 36 := by kernel_rfl
/- live: [0,1,7,8] -/
def c69 : ICode :=
  (.seq (.ops [⟨(some 4),(.mv (.k (I 0))),none⟩])
  (.seq (.ops [⟨(some 7),(.mv (.t 0)),none⟩,
    ⟨(some 8),(.call (.k (.fn (.func 86) [] [])) [(.t 7)]),none⟩,
    ⟨(some 5),(.mv (.t 8)),none⟩])
  (.seq (.ops [⟨(some 9),(.mv (.t 1)),none⟩,
    ⟨(some 10),(.call (.k (.fn (.func 86) [] [])) [(.t 9)]),none⟩,
    ⟨(some 6),(.mv (.t 10)),none⟩])
  (.seq (.seq (.ops [⟨(some 11),(.mv (.t 5)),none⟩])
  (.cond (.t 11)
    (.seq (.seq (.ops [⟨(some 12),(.mv (.t 6)),none⟩])
    (.cond (.t 12)
      (.seq (.ops [⟨(some 4),(.mv (.k (I 0))),none⟩])
      .ret)
      .skip))
    (.seq (.ops [⟨(some 4),(.mv (.k (I (-1)))),none⟩])
    .ret))
    .skip))
  (.seq (.seq (.ops [⟨(some 13),(.mv (.t 6)),none⟩])
  (.cond (.t 13)
    (.seq (.ops [⟨(some 4),(.mv (.k (I 1))),none⟩])
    .ret)
    .skip))
  (.seq (.seq (.ops [⟨(some 14),(.mv (.t 0)),none⟩,
    ⟨(some 15),(.mv (.t 1)),none⟩,
    ⟨(some 16),(.bin .lss (.t 14) (.t 15)),none⟩])
  (.cond (.t 16)
    (.seq (.ops [⟨(some 4),(.mv (.k (I (-1)))),none⟩])
    .ret)
    .skip))
  (.seq (.seq (.ops [⟨(some 17),(.mv (.t 0)),none⟩,
    ⟨(some 18),(.mv (.t 1)),none⟩,
    ⟨(some 19),(.bin .gtr (.t 17) (.t 18)),none⟩])
  (.cond (.t 19)
    (.seq (.ops [⟨(some 4),(.mv (.k (I 1))),none⟩])
    .ret)
    .skip))
  (.seq (.ops [⟨(some 4),(.mv (.k (I 0))),none⟩])
  .ret))))))))
theorem w69 {x : Cx} {Q : QT} {ks : List Kont} {fr : Fr} {H : AHeap} {ms : List Nat} : W x Q c69 ks fr H ms = W x Q (.seq (.ops [⟨(some 4),(.mv (.k (I 0))),none⟩])
    (.seq (.ops [⟨(some 7),(.mv (.t 0)),none⟩,
      ⟨(some 8),(.call (.k (.fn (.func 86) [] [])) [(.t 7)]),none⟩,
      ⟨(some 5),(.mv (.t 8)),none⟩])
    (.seq (.ops [⟨(some 9),(.mv (.t 1)),none⟩,
      ⟨(some 10),(.call (.k (.fn (.func 86) [] [])) [(.t 9)]),none⟩,
      ⟨(some 6),(.mv (.t 10)),none⟩])
    (.seq (.seq (.ops [⟨(some 11),(.mv (.t 5)),none⟩])
    (.cond (.t 11)
      (.seq (.seq (.ops [⟨(some 12),(.mv (.t 6)),none⟩])
      (.cond (.t 12)
        (.seq (.ops [⟨(some 4),(.mv (.k (I 0))),none⟩])
        .ret)
        .skip))
      (.seq (.ops [⟨(some 4),(.mv (.k (I (-1)))),none⟩])
      .ret))
      .skip))
    (.seq (.seq (.ops [⟨(some 13),(.mv (.t 6)),none⟩])
    (.cond (.t 13)
      (.seq (.ops [⟨(some 4),(.mv (.k (I 1))),none⟩])
      .ret)
      .skip))
    (.seq (.seq (.ops [⟨(some 14),(.mv (.t 0)),none⟩,
      ⟨(some 15),(.mv (.t 1)),none⟩,
      ⟨(some 16),(.bin .lss (.t 14) (.t 15)),none⟩])
    (.cond (.t 16)
      (.seq (.ops [⟨(some 4),(.mv (.k (I (-1)))),none⟩])
      .ret)
      .skip))
    (.seq (.seq (.ops [⟨(some 17),(.mv (.t 0)),none⟩,
      ⟨(some 18),(.mv (.t 1)),none⟩,
      ⟨(some 19),(.bin .gtr (.t 17) (.t 18)),none⟩])
    (.cond (.t 19)
      (.seq (.ops [⟨(some 4),(.mv (.k (I 1))),none⟩])
      .ret)
      .skip))
    (.seq (.ops [⟨(some 4),(.mv (.k (I 0))),none⟩])
    .ret)))))))) ks fr H ms := rfl
def r69 : List IRes := [(.tmp 4)]
theorem t69 : Try.f69.body.bind (trCode Try.prog Try.f69.ntmps) = some (strip c69) := by kernel_rfl
theorem q69 : trRes Try.prog Try.f69.results.toList = some r69 := by kernel_rfl
theorem fn69 : Try.prog.funcs[69]? = some Try.f69 := by kernel_rfl
theorem nn69 : (Try.f69.name == "runtime.NumGoroutine") = false := by kernel_rfl
theorem nt69 : Try.f69.ntmps = 20 := by kernel_rfl
def c86 : ICode :=
  (.seq (.ops [⟨(some 2),(.mv (.k (B false))),none⟩])
  (.seq (.ops [⟨(some 3),(.mv (.t 0)),none⟩,
    ⟨(some 4),(.mv (.t 0)),none⟩,
    ⟨(some 5),(.bin .neq (.t 3) (.t 4)),none⟩,
    ⟨(some 2),(.mv (.t 5)),none⟩])
  .ret))
theorem w86 {x : Cx} {Q : QT} {ks : List Kont} {fr : Fr} {H : AHeap} {ms : List Nat} : W x Q c86 ks fr H ms = W x Q (.seq (.ops [⟨(some 2),(.mv (.k (B false))),none⟩])
    (.seq (.ops [⟨(some 3),(.mv (.t 0)),none⟩,
      ⟨(some 4),(.mv (.t 0)),none⟩,
      ⟨(some 5),(.bin .neq (.t 3) (.t 4)),none⟩,
      ⟨(some 2),(.mv (.t 5)),none⟩])
    .ret)) ks fr H ms := rfl
def r86 : List IRes := [(.tmp 2)]
theorem t86 : Try.f86.body.bind (trCode Try.prog Try.f86.ntmps) = some (strip c86) := by kernel_rfl
theorem q86 : trRes Try.prog Try.f86.results.toList = some r86 := by kernel_rfl
theorem fn86 : Try.prog.funcs[86]? = some Try.f86 := by kernel_rfl
theorem nn86 : (Try.f86.name == "runtime.NumGoroutine") = false := by kernel_rfl
theorem nt86 : Try.f86.ntmps = 6 := by kernel_rfl
end Go.Proofs.Ytkmmngphcodjjaa
