/- The code of some functions of the program,cleaned: printed by a program of mine,checked here. -/
import Derived.Test.YtipfjfmdjmaflaaProg
import Derived.Test.YtipfjfmdjmaflaaAS
import Derived.Test.YtipfjfmdjmaflaaKA
import Derived.KernelRfl
namespace Go.Proofs.Ytipfjfmdjmaflaa
open Go.Abs AVal
variable {x : Cx} {Q : QT} {ks : List Kont} {fr : Fr} {H : AHeap} {ms : List Nat}
abbrev b27T3 : ICode :=
  (.view (.keep [12] (.seq (.ops [⟨some 53,(.mv (.t 12)),none⟩,⟨some 54,(.call (.k (.fn (.func 31) [] [])) [(.t 53)]),none⟩])
  (.seq (.ops [⟨some 55,(.mv (.t 12)),none⟩,⟨some 6,(.mv (.t 55)),none⟩,⟨some 7,(.mv (.k (I 0))),none⟩])
  .ret))))
def c27T3 : ICode := b27T3
theorem w27T3 : W x Q c27T3 ks fr H ms = W x Q b27T3 ks fr H ms := rfl
abbrev b27T2 : ICode :=
  (.keep [8,11,12,13] (.seq (.seq (.ops [⟨some 52,(.load true 4 (.t 13)),none⟩])
  (.ops [⟨some 13,(.alloc [(I 0),(I 0),(I 0),(I 0)]),none⟩,⟨none,(.store 4 (.t 13) (.t 52)),none⟩]))
  (.ops [⟨some 38,(.mv (.t 11)),none⟩,⟨some 39,(.load true 4 (.t 13)),none⟩,⟨some 40,(.mval 4 (.agg [(I 0),(I 0),(I 0),(I 0)]) (.t 38) (.t 39)),none⟩,⟨none,(.store 4 (.t 13) (.t 40)),none⟩])))
def c27T2 : ICode := b27T2
theorem w27T2 : W x Q c27T2 ks fr H ms = W x Q b27T2 ks fr H ms := rfl
/- live: [8,11,12,13] -/
abbrev b27L1 : ICode :=
  (.seq (.block 2 (.seq (.ops [⟨some 41,(.mv (.t 12)),none⟩,⟨some 42,(.fldA 0 (.t 8)),none⟩,⟨some 43,(.load true 2 (.t 42)),none⟩,⟨some 44,(.load true 4 (.t 13)),none⟩,⟨some 45,(.call (.k (.fn (.func 71) [] [])) [(.t 43),(.t 44)]),none⟩,⟨some 46,(.bslice 1 1 [nilSl] [(0,1,(.t 45))]),none⟩,⟨some 47,(.append 1 24 (.t 41) (.t 46)),none⟩,⟨some 12,(.mv (.t 47)),none⟩])
  (.seq (.ops [⟨some 48,(.load true 4 (.t 13)),none⟩,⟨some 49,(.fldA 3 (.t 8)),none⟩,⟨some 50,(.load true 4 (.t 49)),none⟩,⟨some 51,(.eqv false 4 (.t 48) (.t 50)),none⟩])
  (.cond (.t 51)
    (.exit 1)
    .skip))))
  c27T2)
def c27L1 : ICode := b27L1
theorem w27L1 : W x Q c27L1 ks fr H ms = W x Q b27L1 ks fr H ms := rfl
abbrev b27T0 : ICode :=
  (.view (.keep [8,9] (.seq (.ops [⟨some 34,(.load true 7 (.t 8)),none⟩,⟨some 35,(.mkfn (.func 70) [] [(.t 9)]),none⟩,⟨some 36,(.call (.k (.fn (.func 69) [] [])) [(.t 34),(.t 35)]),none⟩,⟨some 11,(.mv (.t 36)),none⟩])
  (.seq (.ops [⟨some 12,(.mv (.k nilSl)),none⟩])
  (.seq (.seq (.ops [⟨some 37,(.load true 4 (.t 9)),none⟩,⟨some 13,(.alloc [(I 0),(I 0),(I 0),(I 0)]),none⟩,⟨none,(.store 4 (.t 13) (.t 37)),none⟩])
  (.block 1 (.loop c27L1)))
  c27T3)))))
def c27T0 : ICode := b27T0
theorem w27T0 : W x Q c27T0 ks fr H ms = W x Q b27T0 ks fr H ms := rfl
abbrev b27 : ICode :=
  (.seq (.ops [⟨some 6,(.mv (.k nilSl)),none⟩,⟨some 7,(.mv (.k (I 0))),none⟩])
  (.seq (.ops [⟨some 15,(.mv (.t 0)),none⟩,⟨some 16,(.mv (.t 1)),none⟩,⟨some 17,(.mv (.t 2)),none⟩,⟨some 18,(.call (.k (.fn (.func 66) [] [])) [(.t 15),(.t 16),(.t 17)]),none⟩,⟨some 14,(.mv (.t 18)),none⟩,⟨some 19,(.ext (.t 14) 0),none⟩,⟨some 20,(.ext (.t 14) 1),none⟩,⟨some 21,(.ext (.t 14) 2),none⟩,⟨some 8,(.alloc [nilSl,(I 0),nilSl,(I 0),(I 0),(I 0),(I 0)]),none⟩,⟨some 9,(.alloc [(I 0),(I 0),(I 0),(I 0)]),none⟩,⟨none,(.store 7 (.t 8) (.t 19)),none⟩,⟨none,(.store 4 (.t 9) (.t 20)),none⟩,⟨some 10,(.mv (.t 21)),none⟩])
  (.seq (.block 0 (.seq (.ops [⟨some 23,(.mv (.t 10)),none⟩,⟨some 24,(.un .not (.t 23)),none⟩,⟨some 22,(.mv (.t 24)),none⟩])
  (.cond (.t 22)
    (.seq (.ops [⟨some 6,(.mv (.k nilSl)),none⟩,⟨some 7,(.mv (.k (I 2))),none⟩])
    .ret)
    (.seq (.draw 0 [] (.early 1 ⟨some 26,(.fldA 0 (.t 8)),none⟩
      (.early 1 ⟨some 27,(.load true 2 (.t 26)),none⟩
      (.early 1 ⟨some 28,(.load true 4 (.t 9)),none⟩
      (.early 1 ⟨some 29,(.fldA 3 (.t 8)),none⟩
      (.early 1 ⟨some 30,(.load true 4 (.t 29)),none⟩
      (.early 1 ⟨some 31,(.call (.k (.fn (.func 68) [] [])) [(.t 28),(.k (I (-1))),(.t 30)]),none⟩
      (.step 0 0 ⟨some 32,(.call (.k (.fn (.func 67) [] [])) [(.t 27),(.t 31)]),none⟩
      (.early 0 ⟨some 33,(.un .not (.t 32)),none⟩
      (.early 0 ⟨some 25,(.mv (.t 33)),none⟩
      .done))))))))))
    (.keep [8,9,25] (.cond (.t 25)
      (.seq (.ops [⟨some 6,(.mv (.k nilSl)),none⟩,⟨some 7,(.mv (.k (I 4))),none⟩])
      .ret)
      .skip))))))
  c27T0)))
def c27 : ICode := b27
theorem w27 : W x Q c27 ks fr H ms = W x Q b27 ks fr H ms := rfl
def r27 : List IRes := [(.tmp 6),(.tmp 7)]
theorem t27 : Try.f27.body.bind (trCode Try.prog Try.f27.ntmps) = some (strip c27) := by kernel_rfl
theorem q27 : trRes Try.prog Try.f27.results.toList = some r27 := by kernel_rfl
theorem fn27 : Try.prog.funcs[27]? = some Try.f27 := by kernel_rfl
theorem nn27 : (Try.f27.name == "runtime.NumGoroutine") = false := by kernel_rfl
theorem nt27 : Try.f27.ntmps = 56 := by kernel_rfl
abbrev b28T6 : ICode :=
  (.keep [] (.seq (.ops [⟨some 8,(.mv (.k (B true))),none⟩,⟨some 9,(.mv (.k (I 0))),none⟩])
  .ret))
def c28T6 : ICode := b28T6
theorem w28T6 : W x Q c28T6 ks fr H ms = W x Q b28T6 ks fr H ms := rfl
abbrev b28T5 : ICode :=
  (.keep [10,13,53,54,55] (.ops [⟨some 87,(.bin .add (.t 55) (.k (I 1))),none⟩,⟨some 55,(.mv (.t 87)),none⟩]))
def c28T5 : ICode := b28T5
theorem w28T5 : W x Q c28T5 ks fr H ms = W x Q b28T5 ks fr H ms := rfl
abbrev b28T4 : ICode :=
  (.keep [10,13,15,53,54,55] (.ops [⟨some 85,(.mv (.t 15)),none⟩,⟨some 86,(.call (.k (.fn (.func 74) [] [])) [(.t 85)]),none⟩,⟨none,(.store 4 (.t 13) (.t 86)),none⟩]))
def c28T4 : ICode := b28T4
theorem w28T4 : W x Q c28T4 ks fr H ms = W x Q b28T4 ks fr H ms := rfl
abbrev b28T3 : ICode :=
  (.keep [10,13,53,54,55] (.seq (.block 1 (.seq (.ops [⟨some 57,(.mv (.t 55)),none⟩,⟨some 58,(.ixS 1 (.t 53) (.t 55)),none⟩,⟨some 59,(.load false 1 (.t 58)),none⟩,⟨some 14,(.mv (.t 57)),none⟩,⟨some 15,(.mv (.t 59)),none⟩])
  (.seq (.seq (.draw 0 [] (.early 1 ⟨some 60,(.mv (.t 15)),none⟩
    (.early 1 ⟨some 61,(.len (.t 60)),none⟩
    (.early 1 ⟨some 62,(.fldA 0 (.t 10)),none⟩
    (.early 1 ⟨some 63,(.fldA 1 (.t 62)),none⟩
    (.early 1 ⟨some 64,(.load false 1 (.t 63)),none⟩
    (.early 0 ⟨some 65,(.bin .neq (.t 61) (.t 64)),none⟩
    (.early 0 ⟨some 66,(.mv (.t 65)),none⟩
    (.early 0 ⟨some 67,(.mv (.t 15)),some (66,false)⟩
    (.step 0 0 ⟨some 68,(.call (.k (.fn (.func 72) [] [])) [(.t 67)]),some (66,false)⟩
    (.early 0 ⟨some 69,(.bin .lss (.t 68) (.k (I 0))),some (66,false)⟩
    (.early 0 ⟨some 70,(.pick (.t 66) (.k (B true)) (.t 69)),none⟩
    (.early 0 ⟨some 71,(.mv (.t 70)),none⟩
    (.early 0 ⟨some 72,(.mv (.t 14)),some (71,false)⟩
    (.early 0 ⟨some 73,(.bin .gtr (.t 72) (.k (I 0))),some (71,false)⟩
    (.early 0 ⟨some 74,(.mv (.t 73)),some (71,false)⟩
    (.early 1 ⟨some 75,(.fldA 2 (.t 10)),some (74,true)⟩
    (.early 1 ⟨some 76,(.load false 1 (.t 75)),some (74,true)⟩
    (.early 1 ⟨some 77,(.mv (.t 15)),some (74,true)⟩
    (.early 1 ⟨some 78,(.call (.k (.fn (.func 74) [] [])) [(.t 77)]),some (74,true)⟩
    (.early 1 ⟨some 79,(.load true 4 (.t 13)),some (74,true)⟩
    (.early 1 ⟨some 80,(.call (.k (.fn (.func 68) [] [])) [(.t 78),(.k (I (-1))),(.t 79)]),some (74,true)⟩
    (.step 0 0 ⟨some 81,(.call (.k (.fn (.func 73) [] [])) [(.t 76),(.t 80)]),some (74,true)⟩
    (.early 0 ⟨some 82,(.un .not (.t 81)),some (74,true)⟩
    (.early 0 ⟨some 83,(.pick (.t 74) (.t 82) (.k (B false))),some (71,false)⟩
    (.early 0 ⟨some 84,(.pick (.t 71) (.k (B true)) (.t 83)),none⟩
    .done))))))))))))))))))))))))))
  (.keep [10,13,15,53,54,55,84] (.cond (.t 84)
    (.seq (.ops [⟨some 8,(.mv (.k (B false))),none⟩,⟨some 9,(.mv (.k (I 0))),none⟩])
    .ret)
    .skip)))
  c28T4)))
  c28T5))
def c28T3 : ICode := b28T3
theorem w28T3 : W x Q c28T3 ks fr H ms = W x Q b28T3 ks fr H ms := rfl
/- live: [10,13,53,54,55] -/
abbrev b28L2 : ICode :=
  (.seq (.ops [⟨some 56,(.bin .lss (.t 55) (.t 54)),none⟩])
  (.seq (.cond (.t 56)
    .skip
    (.exit 0))
  c28T3))
def c28L2 : ICode := b28L2
theorem w28L2 : W x Q c28L2 ks fr H ms = W x Q b28L2 ks fr H ms := rfl
abbrev b28T1 : ICode :=
  (.keep [3,10] (.seq (.ops [⟨some 51,(.fldA 3 (.t 10)),none⟩,⟨some 52,(.load true 4 (.t 51)),none⟩,⟨some 13,(.alloc [(I 0),(I 0),(I 0),(I 0)]),none⟩,⟨none,(.store 4 (.t 13) (.t 52)),none⟩])
  (.seq (.seq (.ops [⟨some 53,(.mv (.t 3)),none⟩,⟨some 54,(.len (.t 53)),none⟩,⟨some 55,(.mv (.k (I 0))),none⟩])
  (.block 0 (.loop c28L2)))
  c28T6)))
def c28T1 : ICode := b28T1
theorem w28T1 : W x Q c28T1 ks fr H ms = W x Q b28T1 ks fr H ms := rfl
abbrev b28T0 : ICode :=
  (.keep [1,3,10,11] (.seq (.seq (.draw 0 [] (.early 0 ⟨some 26,(.mv (.t 3)),none⟩
    (.early 0 ⟨some 27,(.len (.t 26)),none⟩
    (.early 0 ⟨some 28,(.bin .eql (.t 27) (.k (I 0))),none⟩
    (.early 0 ⟨some 29,(.mv (.t 28)),none⟩
    (.early 1 ⟨some 30,(.mv (.t 3)),some (29,false)⟩
    (.early 1 ⟨some 31,(.ixS 1 (.t 30) (.k (I 0))),some (29,false)⟩
    (.early 1 ⟨some 32,(.load false 1 (.t 31)),some (29,false)⟩
    (.early 1 ⟨some 33,(.mv (.t 1)),some (29,false)⟩
    (.step 0 0 ⟨some 34,(.call (.k (.fn (.func 22) [] [])) [(.t 32),(.t 33)]),some (29,false)⟩
    (.early 0 ⟨some 35,(.un .not (.t 34)),some (29,false)⟩
    (.early 0 ⟨some 36,(.pick (.t 29) (.k (B true)) (.t 35)),none⟩
    (.early 0 ⟨some 37,(.mv (.t 36)),none⟩
    (.early 1 ⟨some 38,(.mv (.t 3)),some (37,false)⟩
    (.early 1 ⟨some 39,(.mv (.t 3)),some (37,false)⟩
    (.early 1 ⟨some 40,(.len (.t 39)),some (37,false)⟩
    (.early 1 ⟨some 41,(.bin .sub (.t 40) (.k (I 1))),some (37,false)⟩
    (.early 1 ⟨some 42,(.ixS 1 (.t 38) (.t 41)),some (37,false)⟩
    (.early 1 ⟨some 43,(.load false 1 (.t 42)),some (37,false)⟩
    (.early 1 ⟨some 44,(.fldA 0 (.t 10)),some (37,false)⟩
    (.early 1 ⟨some 45,(.load true 2 (.t 44)),some (37,false)⟩
    (.early 1 ⟨some 46,(.load true 4 (.t 11)),some (37,false)⟩
    (.early 1 ⟨some 47,(.call (.k (.fn (.func 71) [] [])) [(.t 45),(.t 46)]),some (37,false)⟩
    (.step 0 0 ⟨some 48,(.call (.k (.fn (.func 22) [] [])) [(.t 43),(.t 47)]),some (37,false)⟩
    (.early 0 ⟨some 49,(.un .not (.t 48)),some (37,false)⟩
    (.early 0 ⟨some 50,(.pick (.t 37) (.k (B true)) (.t 49)),none⟩
    .done))))))))))))))))))))))))))
  (.keep [3,10,50] (.cond (.t 50)
    (.seq (.ops [⟨some 8,(.mv (.k (B false))),none⟩,⟨some 9,(.mv (.k (I 0))),none⟩])
    .ret)
    .skip)))
  c28T1))
def c28T0 : ICode := b28T0
theorem w28T0 : W x Q c28T0 ks fr H ms = W x Q b28T0 ks fr H ms := rfl
abbrev b28 : ICode :=
  (.seq (.ops [⟨some 8,(.mv (.k (B false))),none⟩,⟨some 9,(.mv (.k (I 0))),none⟩])
  (.seq (.ops [⟨some 17,(.mv (.t 0)),none⟩,⟨some 18,(.mv (.t 1)),none⟩,⟨some 19,(.mv (.t 2)),none⟩,⟨some 20,(.call (.k (.fn (.func 66) [] [])) [(.t 17),(.t 18),(.t 19)]),none⟩,⟨some 16,(.mv (.t 20)),none⟩,⟨some 21,(.ext (.t 16) 0),none⟩,⟨some 22,(.ext (.t 16) 1),none⟩,⟨some 23,(.ext (.t 16) 2),none⟩,⟨some 10,(.alloc [nilSl,(I 0),nilSl,(I 0),(I 0),(I 0),(I 0)]),none⟩,⟨some 11,(.alloc [(I 0),(I 0),(I 0),(I 0)]),none⟩,⟨none,(.store 7 (.t 10) (.t 21)),none⟩,⟨none,(.store 4 (.t 11) (.t 22)),none⟩,⟨some 12,(.mv (.t 23)),none⟩])
  (.seq (.seq (.ops [⟨some 24,(.mv (.t 12)),none⟩,⟨some 25,(.un .not (.t 24)),none⟩])
  (.cond (.t 25)
    (.seq (.ops [⟨some 8,(.mv (.k (B false))),none⟩,⟨some 9,(.mv (.k (I 2))),none⟩])
    .ret)
    .skip))
  c28T0)))
def c28 : ICode := b28
theorem w28 : W x Q c28 ks fr H ms = W x Q b28 ks fr H ms := rfl
def r28 : List IRes := [(.tmp 8),(.tmp 9)]
theorem t28 : Try.f28.body.bind (trCode Try.prog Try.f28.ntmps) = some (strip c28) := by kernel_rfl
theorem q28 : trRes Try.prog Try.f28.results.toList = some r28 := by kernel_rfl
theorem fn28 : Try.prog.funcs[28]? = some Try.f28 := by kernel_rfl
theorem nn28 : (Try.f28.name == "runtime.NumGoroutine") = false := by kernel_rfl
theorem nt28 : Try.f28.ntmps = 88 := by kernel_rfl
/- live: [0,2,3] -/
abbrev b31L0 : ICode :=
  (.seq (.seq (.ops [⟨some 7,(.mv (.t 2)),none⟩,⟨some 8,(.mv (.t 3)),none⟩,⟨some 9,(.bin .lss (.t 7) (.t 8)),none⟩])
  (.cond (.t 9)
    .skip
    (.exit 0)))
  (.seq (.block 1 (.draw 0 [] (.early 1 ⟨some 14,(.mv (.t 0)),none⟩
    (.early 1 ⟨some 15,(.mv (.t 2)),none⟩
    (.early 2 ⟨some 16,(.mv (.t 0)),none⟩
    (.early 2 ⟨some 17,(.mv (.t 3)),none⟩
    (.early 1 ⟨some 18,(.mv (.t 0)),none⟩
    (.early 1 ⟨some 19,(.mv (.t 3)),none⟩
    (.early 1 ⟨some 20,(.ixS 1 (.t 18) (.t 19)),none⟩
    (.early 1 ⟨some 21,(.load false 1 (.t 20)),none⟩
    (.early 1 ⟨some 22,(.mv (.t 0)),none⟩
    (.early 1 ⟨some 23,(.mv (.t 2)),none⟩
    (.early 1 ⟨some 24,(.ixS 1 (.t 22) (.t 23)),none⟩
    (.early 1 ⟨some 25,(.load false 1 (.t 24)),none⟩
    (.early 1 ⟨some 26,(.ixS 1 (.t 14) (.t 15)),none⟩
    (.step 0 1 ⟨none,(.store 1 (.t 26) (.t 21)),none⟩
    (.early 0 ⟨some 27,(.ixS 1 (.t 16) (.t 17)),none⟩
    (.step 0 0 ⟨none,(.store 1 (.t 27) (.t 25)),none⟩
    .done))))))))))))))))))
  (.ops [⟨some 10,(.mv (.t 2)),none⟩,⟨some 11,(.bin .add (.t 10) (.k (I 1))),none⟩,⟨some 12,(.mv (.t 3)),none⟩,⟨some 13,(.bin .sub (.t 12) (.k (I 1))),none⟩,⟨some 2,(.mv (.t 11)),none⟩,⟨some 3,(.mv (.t 13)),none⟩])))
def c31L0 : ICode := b31L0
theorem w31L0 : W x Q c31L0 ks fr H ms = W x Q b31L0 ks fr H ms := rfl
abbrev b31 : ICode :=
  (.seq (.ops [⟨some 4,(.mv (.t 0)),none⟩,⟨some 5,(.len (.t 4)),none⟩,⟨some 6,(.bin .sub (.t 5) (.k (I 1))),none⟩,⟨some 2,(.mv (.k (I 0))),none⟩,⟨some 3,(.mv (.t 6)),none⟩])
  (.block 0 (.loop c31L0)))
def c31 : ICode := b31
theorem w31 : W x Q c31 ks fr H ms = W x Q b31 ks fr H ms := rfl
def r31 : List IRes := []
theorem t31 : Try.f31.body.bind (trCode Try.prog Try.f31.ntmps) = some (strip c31) := by kernel_rfl
theorem q31 : trRes Try.prog Try.f31.results.toList = some r31 := by kernel_rfl
theorem fn31 : Try.prog.funcs[31]? = some Try.f31 := by kernel_rfl
theorem nn31 : (Try.f31.name == "runtime.NumGoroutine") = false := by kernel_rfl
theorem nt31 : Try.f31.ntmps = 28 := by kernel_rfl
abbrev b66T0 : ICode :=
  (.keep [2,6,7,9] (.seq (.ops [⟨some 24,(.fldA 0 (.t 9)),none⟩,⟨some 25,(.load true 2 (.t 24)),none⟩,⟨some 26,(.mv (.t 2)),none⟩,⟨some 27,(.call (.k (.fn (.func 63) [] [])) [(.t 25),(.t 26),(.k (I 0)),(.k (I 6))]),none⟩,⟨some 23,(.mv (.t 27)),none⟩,⟨some 28,(.ext (.t 23) 0),none⟩,⟨some 29,(.ext (.t 23) 1),none⟩,⟨some 11,(.alloc [(I 0),(I 0),(I 0),(I 0)]),none⟩,⟨none,(.store 4 (.t 11) (.t 28)),none⟩,⟨some 12,(.mv (.t 29)),none⟩])
  (.seq (.draw 0 [] (.early 1 ⟨some 30,(.load true 7 (.t 9)),none⟩
    (.early 2 ⟨some 32,(.mv (.t 12)),none⟩
    (.both (.step 0 2 ⟨some 31,(.load true 4 (.t 11)),none⟩
      (.step 0 1 ⟨none,(.store 7 (.t 6) (.t 30)),none⟩
      (.step 0 1 ⟨none,(.store 4 (.t 7) (.t 31)),none⟩
      (.early 0 ⟨some 8,(.mv (.t 32)),none⟩
      .done))))
    (.step 0 1 ⟨none,(.store 7 (.t 6) (.t 30)),none⟩
      (.step 0 2 ⟨some 31,(.load true 4 (.t 11)),none⟩
      (.step 0 1 ⟨none,(.store 4 (.t 7) (.t 31)),none⟩
      (.early 0 ⟨some 8,(.mv (.t 32)),none⟩
      .done))))))))
  (.keep [6,7,8] .ret))))
def c66T0 : ICode := b66T0
theorem w66T0 : W x Q c66T0 ks fr H ms = W x Q b66T0 ks fr H ms := rfl
abbrev b66 : ICode :=
  (.seq (.ops [⟨some 6,(.alloc [nilSl,(I 0),nilSl,(I 0),(I 0),(I 0),(I 0)]),none⟩,⟨some 7,(.alloc [(I 0),(I 0),(I 0),(I 0)]),none⟩,⟨some 8,(.mv (.k (B false))),none⟩])
  (.seq (.ops [⟨some 14,(.mv (.t 0)),none⟩,⟨some 15,(.mv (.t 1)),none⟩,⟨some 16,(.call (.k (.fn (.func 98) [] [])) [(.t 14),(.t 15),(.k (I 6))]),none⟩,⟨some 13,(.mv (.t 16)),none⟩,⟨some 17,(.ext (.t 13) 0),none⟩,⟨some 18,(.ext (.t 13) 1),none⟩,⟨some 9,(.alloc [nilSl,(I 0),nilSl,(I 0),(I 0),(I 0),(I 0)]),none⟩,⟨none,(.store 7 (.t 9) (.t 17)),none⟩,⟨some 10,(.mv (.t 18)),none⟩])
  (.seq (.seq (.ops [⟨some 19,(.mv (.t 10)),none⟩,⟨some 20,(.bin .eql (.t 19) (.k (I 2))),none⟩])
  (.cond (.t 20)
    (.seq (.ops [⟨some 21,(.load true 7 (.t 9)),none⟩,⟨some 22,(.build [(I 0),(I 0),(I 0),(I 0)] []),none⟩,⟨none,(.store 7 (.t 6) (.t 21)),none⟩,⟨none,(.store 4 (.t 7) (.t 22)),none⟩,⟨some 8,(.mv (.k (B false))),none⟩])
    .ret)
    .skip))
  c66T0)))
def c66 : ICode := b66
theorem w66 : W x Q c66 ks fr H ms = W x Q b66 ks fr H ms := rfl
def r66 : List IRes := [(.cell true 7 6),(.cell true 4 7),(.tmp 8)]
theorem t66 : Try.f66.body.bind ((trCodeX [(5,2)]) Try.prog Try.f66.ntmps) = some (strip c66) := by kernel_rfl
theorem q66 : trRes Try.prog Try.f66.results.toList = some r66 := by kernel_rfl
theorem fn66 : Try.prog.funcs[66]? = some Try.f66 := by kernel_rfl
theorem nn66 : (Try.f66.name == "runtime.NumGoroutine") = false := by kernel_rfl
theorem nt66 : Try.f66.ntmps = 33 := by kernel_rfl
abbrev b70 : ICode :=
  (.seq (.ops [⟨some 2,(.box (.t 0)),none⟩,⟨some 3,(.mv (.k (B false))),none⟩])
  (.seq (.ops [⟨some 4,(.load true 4 (.t 2)),none⟩,⟨some 5,(.load true 4 (.t 1)),none⟩,⟨some 6,(.eqv false 4 (.t 4) (.t 5)),none⟩,⟨some 3,(.mv (.t 6)),none⟩])
  .ret))
def c70 : ICode := b70
theorem w70 : W x Q c70 ks fr H ms = W x Q b70 ks fr H ms := rfl
def r70 : List IRes := [(.tmp 3)]
theorem t70 : Try.f70.body.bind (trCode Try.prog Try.f70.ntmps) = some (strip c70) := by kernel_rfl
theorem q70 : trRes Try.prog Try.f70.results.toList = some r70 := by kernel_rfl
theorem fn70 : Try.prog.funcs[70]? = some Try.f70 := by kernel_rfl
theorem nn70 : (Try.f70.name == "runtime.NumGoroutine") = false := by kernel_rfl
theorem nt70 : Try.f70.ntmps = 7 := by kernel_rfl
end Go.Proofs.Ytipfjfmdjmaflaa
