/- The code of some functions of the program,cleaned: printed by a program of mine,checked here. -/
import Derived.Test.YtkmmngphcodjjaaProg
import Derived.Test.YtkmmngphcodjjaaAS
import Derived.Test.YtkmmngphcodjjaaCA
import Derived.KernelRfl
namespace Go.Proofs.Ytkmmngphcodjjaa
open Go.Abs AVal
def c3 : ICode :=
  (.seq (.ops [⟨(some 2),(.mv (.k (B false))),none⟩])
  (.seq (.ops [⟨(some 8),(.mv (.t 0)),none⟩,
    ⟨(some 9),(.call (.k (.fn (.func 16) [] [])) [(.t 8)]),none⟩,
    ⟨(some 10),(.call (.k (.fn (.func 15) [] [])) [(.t 9)]),none⟩,
    ⟨(some 7),(.mv (.t 10)),none⟩,
    ⟨(some 11),(.ext (.t 7) 0),none⟩,
    ⟨(some 12),(.ext (.t 7) 1),none⟩,
    ⟨(some 3),(.mv (.t 11)),none⟩,
    ⟨(some 4),(.mv (.t 12)),none⟩])
  (.seq (.ops [⟨(some 14),(.mv (.t 0)),none⟩,
    ⟨(some 15),(.call (.k (.fn (.func 16) [] [])) [(.t 14)]),none⟩,
    ⟨(some 16),(.call (.k (.fn (.func 17) [] [])) [(.t 15)]),none⟩,
    ⟨(some 13),(.mv (.t 16)),none⟩,
    ⟨(some 17),(.ext (.t 13) 0),none⟩,
    ⟨(some 18),(.ext (.t 13) 1),none⟩,
    ⟨(some 5),(.mv (.t 17)),none⟩,
    ⟨(some 6),(.mv (.t 18)),none⟩])
  (.seq (.seq (.ops [⟨(some 19),(.mv (.t 0)),none⟩,
    ⟨(some 20),(.call (.k (.fn (.func 18) [] [])) [(.t 19)]),none⟩,
    ⟨(some 21),(.un .not (.t 20)),none⟩])
  (.cond (.t 21)
    (.seq (.ops [⟨(some 22),(.mv (.t 3)),none⟩,
      ⟨(some 23),(.len (.t 22)),none⟩,
      ⟨(some 24),(.mv (.t 5)),none⟩,
      ⟨(some 25),(.len (.t 24)),none⟩,
      ⟨(some 26),(.bin .add (.t 23) (.t 25)),none⟩,
      ⟨(some 27),(.bin .eql (.t 26) (.k (I 0))),none⟩,
      ⟨(some 28),(.mv (.t 27)),none⟩,
      ⟨(some 29),(.mv (.t 4)),(some (28,true))⟩,
      ⟨(some 30),(.bin .eql (.t 29) (.k (I 2))),(some (28,true))⟩,
      ⟨(some 31),(.pick (.t 28) (.t 30) (.k (B false))),none⟩,
      ⟨(some 32),(.mv (.t 31)),none⟩,
      ⟨(some 33),(.mv (.t 6)),(some (32,true))⟩,
      ⟨(some 34),(.bin .eql (.t 33) (.k (I 2))),(some (32,true))⟩,
      ⟨(some 35),(.pick (.t 32) (.t 34) (.k (B false))),none⟩,
      ⟨(some 36),(.mv (.t 35)),none⟩,
      ⟨(some 37),(.call (.k (.fn (.func 19) [] [])) []),(some (36,true))⟩,
      ⟨(some 38),(.pick (.t 36) (.t 37) (.k (B false))),none⟩,
      ⟨(some 2),(.mv (.t 38)),none⟩])
    .ret)
    .skip))
  (.seq (.ops [⟨(some 39),(.mv (.t 3)),none⟩,
    ⟨(some 40),(.mv (.t 0)),none⟩,
    ⟨(some 41),(.call (.k (.fn (.func 21) [] [])) [(.t 40)]),none⟩,
    ⟨(some 42),(.call (.k (.fn (.func 20) [] [])) [(.t 39),(.t 41)]),none⟩,
    ⟨(some 43),(.mv (.t 42)),none⟩,
    ⟨(some 44),(.mv (.t 5)),(some (43,true))⟩,
    ⟨(some 45),(.mv (.t 0)),(some (43,true))⟩,
    ⟨(some 46),(.call (.k (.fn (.func 22) [] [])) [(.t 45)]),(some (43,true))⟩,
    ⟨(some 47),(.call (.k (.fn (.func 20) [] [])) [(.t 44),(.t 46)]),(some (43,true))⟩,
    ⟨(some 48),(.pick (.t 43) (.t 47) (.k (B false))),none⟩,
    ⟨(some 49),(.mv (.t 48)),none⟩,
    ⟨(some 50),(.mv (.t 4)),(some (49,true))⟩,
    ⟨(some 51),(.bin .eql (.t 50) (.k (I 0))),(some (49,true))⟩,
    ⟨(some 52),(.pick (.t 49) (.t 51) (.k (B false))),none⟩,
    ⟨(some 53),(.mv (.t 52)),none⟩,
    ⟨(some 54),(.mv (.t 6)),(some (53,true))⟩,
    ⟨(some 55),(.bin .eql (.t 54) (.k (I 0))),(some (53,true))⟩,
    ⟨(some 56),(.pick (.t 53) (.t 55) (.k (B false))),none⟩,
    ⟨(some 57),(.mv (.t 56)),none⟩,
    ⟨(some 58),(.call (.k (.fn (.func 19) [] [])) []),(some (57,true))⟩,
    ⟨(some 59),(.pick (.t 57) (.t 58) (.k (B false))),none⟩,
    ⟨(some 2),(.mv (.t 59)),none⟩])
  .ret)))))
theorem w3 {x : Cx} {Q : QT} {ks : List Kont} {fr : Fr} {H : AHeap} {ms : List Nat} : W x Q c3 ks fr H ms = W x Q (.seq (.ops [⟨(some 2),(.mv (.k (B false))),none⟩])
    (.seq (.ops [⟨(some 8),(.mv (.t 0)),none⟩,
      ⟨(some 9),(.call (.k (.fn (.func 16) [] [])) [(.t 8)]),none⟩,
      ⟨(some 10),(.call (.k (.fn (.func 15) [] [])) [(.t 9)]),none⟩,
      ⟨(some 7),(.mv (.t 10)),none⟩,
      ⟨(some 11),(.ext (.t 7) 0),none⟩,
      ⟨(some 12),(.ext (.t 7) 1),none⟩,
      ⟨(some 3),(.mv (.t 11)),none⟩,
      ⟨(some 4),(.mv (.t 12)),none⟩])
    (.seq (.ops [⟨(some 14),(.mv (.t 0)),none⟩,
      ⟨(some 15),(.call (.k (.fn (.func 16) [] [])) [(.t 14)]),none⟩,
      ⟨(some 16),(.call (.k (.fn (.func 17) [] [])) [(.t 15)]),none⟩,
      ⟨(some 13),(.mv (.t 16)),none⟩,
      ⟨(some 17),(.ext (.t 13) 0),none⟩,
      ⟨(some 18),(.ext (.t 13) 1),none⟩,
      ⟨(some 5),(.mv (.t 17)),none⟩,
      ⟨(some 6),(.mv (.t 18)),none⟩])
    (.seq (.seq (.ops [⟨(some 19),(.mv (.t 0)),none⟩,
      ⟨(some 20),(.call (.k (.fn (.func 18) [] [])) [(.t 19)]),none⟩,
      ⟨(some 21),(.un .not (.t 20)),none⟩])
    (.cond (.t 21)
      (.seq (.ops [⟨(some 22),(.mv (.t 3)),none⟩,
        ⟨(some 23),(.len (.t 22)),none⟩,
        ⟨(some 24),(.mv (.t 5)),none⟩,
        ⟨(some 25),(.len (.t 24)),none⟩,
        ⟨(some 26),(.bin .add (.t 23) (.t 25)),none⟩,
        ⟨(some 27),(.bin .eql (.t 26) (.k (I 0))),none⟩,
        ⟨(some 28),(.mv (.t 27)),none⟩,
        ⟨(some 29),(.mv (.t 4)),(some (28,true))⟩,
        ⟨(some 30),(.bin .eql (.t 29) (.k (I 2))),(some (28,true))⟩,
        ⟨(some 31),(.pick (.t 28) (.t 30) (.k (B false))),none⟩,
        ⟨(some 32),(.mv (.t 31)),none⟩,
        ⟨(some 33),(.mv (.t 6)),(some (32,true))⟩,
        ⟨(some 34),(.bin .eql (.t 33) (.k (I 2))),(some (32,true))⟩,
        ⟨(some 35),(.pick (.t 32) (.t 34) (.k (B false))),none⟩,
        ⟨(some 36),(.mv (.t 35)),none⟩,
        ⟨(some 37),(.call (.k (.fn (.func 19) [] [])) []),(some (36,true))⟩,
        ⟨(some 38),(.pick (.t 36) (.t 37) (.k (B false))),none⟩,
        ⟨(some 2),(.mv (.t 38)),none⟩])
      .ret)
      .skip))
    (.seq (.ops [⟨(some 39),(.mv (.t 3)),none⟩,
      ⟨(some 40),(.mv (.t 0)),none⟩,
      ⟨(some 41),(.call (.k (.fn (.func 21) [] [])) [(.t 40)]),none⟩,
      ⟨(some 42),(.call (.k (.fn (.func 20) [] [])) [(.t 39),(.t 41)]),none⟩,
      ⟨(some 43),(.mv (.t 42)),none⟩,
      ⟨(some 44),(.mv (.t 5)),(some (43,true))⟩,
      ⟨(some 45),(.mv (.t 0)),(some (43,true))⟩,
      ⟨(some 46),(.call (.k (.fn (.func 22) [] [])) [(.t 45)]),(some (43,true))⟩,
      ⟨(some 47),(.call (.k (.fn (.func 20) [] [])) [(.t 44),(.t 46)]),(some (43,true))⟩,
      ⟨(some 48),(.pick (.t 43) (.t 47) (.k (B false))),none⟩,
      ⟨(some 49),(.mv (.t 48)),none⟩,
      ⟨(some 50),(.mv (.t 4)),(some (49,true))⟩,
      ⟨(some 51),(.bin .eql (.t 50) (.k (I 0))),(some (49,true))⟩,
      ⟨(some 52),(.pick (.t 49) (.t 51) (.k (B false))),none⟩,
      ⟨(some 53),(.mv (.t 52)),none⟩,
      ⟨(some 54),(.mv (.t 6)),(some (53,true))⟩,
      ⟨(some 55),(.bin .eql (.t 54) (.k (I 0))),(some (53,true))⟩,
      ⟨(some 56),(.pick (.t 53) (.t 55) (.k (B false))),none⟩,
      ⟨(some 57),(.mv (.t 56)),none⟩,
      ⟨(some 58),(.call (.k (.fn (.func 19) [] [])) []),(some (57,true))⟩,
      ⟨(some 59),(.pick (.t 57) (.t 58) (.k (B false))),none⟩,
      ⟨(some 2),(.mv (.t 59)),none⟩])
    .ret))))) ks fr H ms := rfl
def r3 : List IRes := [(.tmp 2)]
theorem t3 : Try.f3.body.bind (trCode Try.prog Try.f3.ntmps) = some (strip c3) := by kernel_rfl
theorem q3 : trRes Try.prog Try.f3.results.toList = some r3 := by kernel_rfl
theorem fn3 : Try.prog.funcs[3]? = some Try.f3 := by kernel_rfl
theorem nn3 : (Try.f3.name == "runtime.NumGoroutine") = false := by kernel_rfl
theorem nt3 : Try.f3.ntmps = 60 := by kernel_rfl
end Go.Proofs.Ytkmmngphcodjjaa
namespace Go.Proofs.Ytkmmngphcodjjaa
open Go.Abs AVal
/- live: [0,1,7,8] -/
/- live: [0,1,2,7] -/
/- live: [5,7,10] -/
/- live: [0,3,5,7,8,57,58,116,117] -/
/- live: [0,3,5,7,57,58] -/
end Go.Proofs.Ytkmmngphcodjjaa
namespace Go.Proofs.Ytkmmngphcodjjaa
open Go.Abs AVal
end Go.Proofs.Ytkmmngphcodjjaa
