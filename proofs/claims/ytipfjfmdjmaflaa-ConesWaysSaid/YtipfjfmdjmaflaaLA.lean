/- The code of some functions of the program,cleaned: printed by a program of mine,checked here. -/
import Derived.Test.YtipfjfmdjmaflaaProg
import Derived.Test.YtipfjfmdjmaflaaAS
import Derived.Test.YtipfjfmdjmaflaaKA
import Derived.KernelRfl
namespace Go.Proofs.Ytipfjfmdjmaflaa
open Go.Abs AVal
variable {x : Cx} {Q : QT} {ks : List Kont} {fr : Fr} {H : AHeap} {ms : List Nat}
abbrev b112 : ICode :=
  (.seq (.ops [⟨some 1,(.box (.t 0)),none⟩,⟨some 2,(.mv (.k (I 0))),none⟩])
  (.seq (.ops [⟨some 3,(.mv (.k (.fn (.func 134) [] []))),none⟩])
  (.seq (.seq (.ops [⟨some 5,(.fldA 0 (.t 1)),none⟩,⟨some 6,(.load false 1 (.t 5)),none⟩,⟨some 7,(.call (.k (.fn (.func 135) [] [])) [(.t 6)]),none⟩,⟨some 8,(.mv (.t 3)),none⟩,⟨some 9,(.call (.k (.fn (.func 128) [] [])) [(.t 7),(.t 8)]),none⟩,⟨some 4,(.mv (.t 9)),none⟩])
  (.block 0 (.seq (.ops [⟨some 11,(.mv (.t 4)),none⟩,⟨some 12,(.len (.t 11)),none⟩,⟨some 13,(.bin .eql (.t 12) (.k (I 0))),none⟩,⟨some 10,(.mv (.t 13)),none⟩])
  (.cond (.t 10)
    (.seq (.ops [⟨some 2,(.mv (.k (I 1))),none⟩])
    .ret)
    (.seq (.draw 0 [] (.early 0 ⟨some 15,(.mv (.t 4)),none⟩
      (.early 0 ⟨some 16,(.len (.t 15)),none⟩
      (.early 0 ⟨some 17,(.bin .eql (.t 16) (.k (I 1))),none⟩
      (.early 0 ⟨some 18,(.mv (.t 17)),none⟩
      (.early 1 ⟨some 19,(.mv (.t 4)),some (18,false)⟩
      (.early 1 ⟨some 20,(.ixS 4 (.t 19) (.k (I 0))),some (18,false)⟩
      (.early 1 ⟨some 21,(.load true 4 (.t 20)),some (18,false)⟩
      (.early 1 ⟨some 22,(.mv (.t 4)),some (18,false)⟩
      (.early 1 ⟨some 23,(.ixS 4 (.t 22) (.k (I 1))),some (18,false)⟩
      (.early 1 ⟨some 24,(.load true 4 (.t 23)),some (18,false)⟩
      (.step 0 0 ⟨some 25,(.call (.k (.fn (.func 136) [] [])) [(.t 21),(.t 24)]),some (18,false)⟩
      (.step 0 0 ⟨some 26,(.call (.k (.fn (.func 87) [] [])) [(.t 25),(.k (.fn (.func 137) [] []))]),some (18,false)⟩
      (.early 0 ⟨some 27,(.bin .lss (.t 26) (.k (I 0))),some (18,false)⟩
      (.early 0 ⟨some 28,(.pick (.t 18) (.k (B true)) (.t 27)),none⟩
      (.early 0 ⟨some 14,(.mv (.t 28)),none⟩
      .done))))))))))))))))
    (.keep [14] (.cond (.t 14)
      (.seq (.ops [⟨some 2,(.mv (.k (I 3))),none⟩])
      .ret)
      .skip)))))))
  (.seq (.ops [⟨some 2,(.mv (.k (I 16))),none⟩])
  .ret))))
def c112 : ICode := b112
theorem w112 : W x Q c112 ks fr H ms = W x Q b112 ks fr H ms := rfl
def r112 : List IRes := [(.tmp 2)]
theorem t112 : Try.f112.body.bind (trCode Try.prog Try.f112.ntmps) = some (strip c112) := by kernel_rfl
theorem q112 : trRes Try.prog Try.f112.results.toList = some r112 := by kernel_rfl
theorem fn112 : Try.prog.funcs[112]? = some Try.f112 := by kernel_rfl
theorem nn112 : (Try.f112.name == "runtime.NumGoroutine") = false := by kernel_rfl
theorem nt112 : Try.f112.ntmps = 29 := by kernel_rfl
abbrev b134 : ICode :=
  (.seq (.ops [⟨some 1,(.box (.t 0)),none⟩,⟨some 2,(.mv (.k (B false))),none⟩])
  (.seq (.ops [⟨some 3,(.load true 4 (.t 1)),none⟩,⟨some 4,(.build [(I 0),(I 0),(I 0),(I 0)] []),none⟩,⟨some 5,(.eqv false 4 (.t 3) (.t 4)),none⟩,⟨some 2,(.mv (.t 5)),none⟩])
  .ret))
def c134 : ICode := b134
theorem w134 : W x Q c134 ks fr H ms = W x Q b134 ks fr H ms := rfl
def r134 : List IRes := [(.tmp 2)]
theorem t134 : Try.f134.body.bind (trCode Try.prog Try.f134.ntmps) = some (strip c134) := by kernel_rfl
theorem q134 : trRes Try.prog Try.f134.results.toList = some r134 := by kernel_rfl
theorem fn134 : Try.prog.funcs[134]? = some Try.f134 := by kernel_rfl
theorem nn134 : (Try.f134.name == "runtime.NumGoroutine") = false := by kernel_rfl
theorem nt134 : Try.f134.ntmps = 6 := by kernel_rfl
abbrev b137 : ICode :=
  (.seq (.ops [⟨some 2,(.mv (.k (B false))),none⟩])
  (.seq (.ops [⟨some 3,(.mv (.t 0)),none⟩,⟨some 4,(.bin .neq (.t 3) (.k (I 0))),none⟩,⟨some 2,(.mv (.t 4)),none⟩])
  .ret))
def c137 : ICode := b137
theorem w137 : W x Q c137 ks fr H ms = W x Q b137 ks fr H ms := rfl
def r137 : List IRes := [(.tmp 2)]
theorem t137 : Try.f137.body.bind (trCode Try.prog Try.f137.ntmps) = some (strip c137) := by kernel_rfl
theorem q137 : trRes Try.prog Try.f137.results.toList = some r137 := by kernel_rfl
theorem fn137 : Try.prog.funcs[137]? = some Try.f137 := by kernel_rfl
theorem nn137 : (Try.f137.name == "runtime.NumGoroutine") = false := by kernel_rfl
theorem nt137 : Try.f137.ntmps = 5 := by kernel_rfl
abbrev b136T3 : ICode :=
  (.keep [5] (.seq (.ops [⟨some 35,(.mv (.t 5)),none⟩,⟨some 4,(.mv (.t 35)),none⟩])
  .ret))
def c136T3 : ICode := b136T3
theorem w136T3 : W x Q c136T3 ks fr H ms = W x Q b136T3 ks fr H ms := rfl
abbrev b136T2 : ICode :=
  (.keep [2,3,5,8] (.ops [⟨some 34,(.bin .add (.t 8) (.k (I 1))),none⟩,⟨some 8,(.mv (.t 34)),none⟩]))
def c136T2 : ICode := b136T2
theorem w136T2 : W x Q c136T2 ks fr H ms = W x Q b136T2 ks fr H ms := rfl
/- live: [2,3,5,6,8,11,12] -/
abbrev b136L1 : ICode :=
  (.seq (.ops [⟨some 13,(.bin .lss (.t 12) (.t 11)),none⟩])
  (.seq (.cond (.t 13)
    .skip
    (.exit 2))
  (.seq (.block 3 (.seq (.ops [⟨some 14,(.mv (.t 12)),none⟩,⟨some 7,(.mv (.t 14)),none⟩])
  (.draw 2 [] (.early 1 ⟨some 15,(.mv (.t 5)),none⟩
    (.early 1 ⟨some 16,(.mv (.t 7)),none⟩
    (.early 1 ⟨some 17,(.ixP 4 1 (.t 2) (.t 16)),none⟩
    (.early 1 ⟨some 18,(.load false 1 (.t 17)),none⟩
    (.early 1 ⟨some 19,(.mv (.t 6)),none⟩
    (.early 1 ⟨some 20,(.ixP 4 1 (.t 3) (.t 19)),none⟩
    (.early 1 ⟨some 21,(.load false 1 (.t 20)),none⟩
    (.early 1 ⟨some 22,(.bin .mul (.t 18) (.t 21)),none⟩
    (.early 1 ⟨some 23,(.mv (.t 6)),none⟩
    (.early 1 ⟨some 24,(.ixP 4 1 (.t 2) (.t 23)),none⟩
    (.early 1 ⟨some 25,(.load false 1 (.t 24)),none⟩
    (.early 1 ⟨some 26,(.mv (.t 7)),none⟩
    (.early 1 ⟨some 27,(.ixP 4 1 (.t 3) (.t 26)),none⟩
    (.early 1 ⟨some 28,(.load false 1 (.t 27)),none⟩
    (.early 1 ⟨some 29,(.bin .mul (.t 25) (.t 28)),none⟩
    (.early 1 ⟨some 30,(.bin .sub (.t 22) (.t 29)),none⟩
    (.step 0 1 ⟨some 31,(.bslice 1 1 [(I 0)] [(0,1,(.t 30))]),none⟩
    (.step 1 0 ⟨some 32,(.append 1 8 (.t 15) (.t 31)),none⟩
    (.early 0 ⟨some 5,(.mv (.t 32)),none⟩
    .done))))))))))))))))))))))
  (.ops [⟨some 33,(.bin .add (.t 12) (.k (I 1))),none⟩,⟨some 12,(.mv (.t 33)),none⟩]))))
def c136L1 : ICode := b136L1
theorem w136L1 : W x Q c136L1 ks fr H ms = W x Q b136L1 ks fr H ms := rfl
/- live: [2,3,5,8] -/
abbrev b136L0 : ICode :=
  (.seq (.ops [⟨some 9,(.bin .lss (.t 8) (.k (I 4))),none⟩])
  (.seq (.cond (.t 9)
    .skip
    (.exit 0))
  (.seq (.block 1 (.seq (.ops [⟨some 10,(.mv (.t 8)),none⟩,⟨some 6,(.mv (.t 10)),none⟩])
  (.seq (.ops [⟨some 11,(.mv (.t 6)),none⟩,⟨some 12,(.mv (.k (I 0))),none⟩])
  (.block 2 (.loop c136L1)))))
  c136T2)))
def c136L0 : ICode := b136L0
theorem w136L0 : W x Q c136L0 ks fr H ms = W x Q b136L0 ks fr H ms := rfl
abbrev b136 : ICode :=
  (.seq (.ops [⟨some 2,(.box (.t 0)),none⟩,⟨some 3,(.box (.t 1)),none⟩,⟨some 4,(.mv (.k nilSl)),none⟩])
  (.seq (.ops [⟨some 5,(.mv (.k nilSl)),none⟩])
  (.seq (.seq (.ops [⟨some 8,(.mv (.k (I 0))),none⟩])
  (.block 0 (.loop c136L0)))
  c136T3)))
def c136 : ICode := b136
theorem w136 : W x Q c136 ks fr H ms = W x Q b136 ks fr H ms := rfl
def r136 : List IRes := [(.tmp 4)]
theorem t136 : Try.f136.body.bind (trCode Try.prog Try.f136.ntmps) = some (strip c136) := by kernel_rfl
theorem q136 : trRes Try.prog Try.f136.results.toList = some r136 := by kernel_rfl
theorem fn136 : Try.prog.funcs[136]? = some Try.f136 := by kernel_rfl
theorem nn136 : (Try.f136.name == "runtime.NumGoroutine") = false := by kernel_rfl
theorem nt136 : Try.f136.ntmps = 36 := by kernel_rfl
abbrev b96T1 : ICode :=
  (.keep [] (.seq (.ops [⟨some 4,(.mv (.k (I (-1)))),none⟩])
  .ret))
def c96T1 : ICode := b96T1
theorem w96T1 : W x Q c96T1 ks fr H ms = W x Q b96T1 ks fr H ms := rfl
/- live: [0,1,7,8] -/
abbrev b96L0 : ICode :=
  (.seq (.ops [⟨some 9,(.bin .lss (.t 8) (.t 7)),none⟩])
  (.seq (.cond (.t 9)
    .skip
    (.exit 0))
  (.seq (.block 1 (.seq (.ops [⟨some 10,(.mv (.t 8)),none⟩,⟨some 5,(.mv (.t 10)),none⟩])
  (.seq (.ops [⟨some 11,(.mv (.t 1)),none⟩,⟨some 12,(.mv (.t 0)),none⟩,⟨some 13,(.mv (.t 5)),none⟩,⟨some 14,(.ixS 4 (.t 12) (.t 13)),none⟩,⟨some 15,(.load true 4 (.t 14)),none⟩,⟨some 16,(.call (.t 11) [(.t 15)]),none⟩])
  (.cond (.t 16)
    (.seq (.ops [⟨some 17,(.mv (.t 5)),none⟩,⟨some 4,(.mv (.t 17)),none⟩])
    .ret)
    .skip))))
  (.ops [⟨some 18,(.bin .add (.t 8) (.k (I 1))),none⟩,⟨some 8,(.mv (.t 18)),none⟩]))))
def c96L0 : ICode := b96L0
theorem w96L0 : W x Q c96L0 ks fr H ms = W x Q b96L0 ks fr H ms := rfl
abbrev b96 : ICode :=
  (.seq (.ops [⟨some 4,(.mv (.k (I 0))),none⟩])
  (.seq (.seq (.ops [⟨some 6,(.mv (.t 0)),none⟩,⟨some 7,(.len (.t 6)),none⟩,⟨some 8,(.mv (.k (I 0))),none⟩])
  (.block 0 (.loop c96L0)))
  c96T1))
def c96 : ICode := b96
theorem w96 : W x Q c96 ks fr H ms = W x Q b96 ks fr H ms := rfl
def r96 : List IRes := [(.tmp 4)]
theorem t96 : Try.f96.body.bind (trCode Try.prog Try.f96.ntmps) = some (strip c96) := by kernel_rfl
theorem q96 : trRes Try.prog Try.f96.results.toList = some r96 := by kernel_rfl
theorem fn96 : Try.prog.funcs[96]? = some Try.f96 := by kernel_rfl
theorem nn96 : (Try.f96.name == "runtime.NumGoroutine") = false := by kernel_rfl
theorem nt96 : Try.f96.ntmps = 19 := by kernel_rfl
abbrev b128T1 : ICode :=
  (.keep [0,5] (.seq (.ops [⟨some 36,(.mv (.t 0)),none⟩,⟨some 37,(.mv (.t 5)),none⟩,⟨some 38,(.slS 4 (.t 36) (some (.t 37)) none none),none⟩,⟨none,(.clr 4 [(I 0),(I 0),(I 0),(I 0)] (.t 38)),none⟩])
  (.seq (.ops [⟨some 39,(.mv (.t 0)),none⟩,⟨some 40,(.mv (.t 5)),none⟩,⟨some 41,(.slS 4 (.t 39) none (some (.t 40)) none),none⟩,⟨some 4,(.mv (.t 41)),none⟩])
  .ret)))
def c128T1 : ICode := b128T1
theorem w128T1 : W x Q c128T1 ks fr H ms = W x Q b128T1 ks fr H ms := rfl
/- live: [0,1,5,6] -/
abbrev b128L0 : ICode :=
  (.seq (.seq (.ops [⟨some 16,(.mv (.t 6)),none⟩,⟨some 17,(.mv (.t 0)),none⟩,⟨some 18,(.len (.t 17)),none⟩,⟨some 19,(.bin .lss (.t 16) (.t 18)),none⟩])
  (.cond (.t 19)
    .skip
    (.exit 0)))
  (.seq (.block 1 (.seq (.ops [⟨some 22,(.mv (.t 0)),none⟩,⟨some 23,(.mv (.t 6)),none⟩,⟨some 24,(.ixS 4 (.t 22) (.t 23)),none⟩,⟨some 25,(.load true 4 (.t 24)),none⟩,⟨some 7,(.alloc [(I 0),(I 0),(I 0),(I 0)]),none⟩,⟨none,(.store 4 (.t 7) (.t 25)),none⟩])
  (.seq (.ops [⟨some 26,(.mv (.t 1)),none⟩,⟨some 27,(.load true 4 (.t 7)),none⟩,⟨some 28,(.call (.t 26) [(.t 27)]),none⟩,⟨some 29,(.un .not (.t 28)),none⟩])
  (.cond (.t 29)
    (.seq (.ops [⟨some 30,(.mv (.t 0)),none⟩,⟨some 31,(.mv (.t 5)),none⟩,⟨some 32,(.load true 4 (.t 7)),none⟩,⟨some 33,(.ixS 4 (.t 30) (.t 31)),none⟩,⟨none,(.store 4 (.t 33) (.t 32)),none⟩])
    (.ops [⟨some 34,(.mv (.t 5)),none⟩,⟨some 35,(.bin .add (.t 34) (.k (I 1))),none⟩,⟨some 5,(.mv (.t 35)),none⟩]))
    .skip))))
  (.ops [⟨some 20,(.mv (.t 6)),none⟩,⟨some 21,(.bin .add (.t 20) (.k (I 1))),none⟩,⟨some 6,(.mv (.t 21)),none⟩])))
def c128L0 : ICode := b128L0
theorem w128L0 : W x Q c128L0 ks fr H ms = W x Q b128L0 ks fr H ms := rfl
abbrev b128 : ICode :=
  (.seq (.ops [⟨some 4,(.mv (.k nilSl)),none⟩])
  (.seq (.ops [⟨some 8,(.mv (.t 0)),none⟩,⟨some 9,(.mv (.t 1)),none⟩,⟨some 10,(.call (.k (.fn (.func 96) [] [])) [(.t 8),(.t 9)]),none⟩,⟨some 5,(.mv (.t 10)),none⟩])
  (.seq (.seq (.ops [⟨some 11,(.mv (.t 5)),none⟩,⟨some 12,(.bin .eql (.t 11) (.k (I (-1)))),none⟩])
  (.cond (.t 12)
    (.seq (.ops [⟨some 13,(.mv (.t 0)),none⟩,⟨some 4,(.mv (.t 13)),none⟩])
    .ret)
    .skip))
  (.seq (.seq (.ops [⟨some 14,(.mv (.t 5)),none⟩,⟨some 15,(.bin .add (.t 14) (.k (I 1))),none⟩,⟨some 6,(.mv (.t 15)),none⟩])
  (.block 0 (.loop c128L0)))
  c128T1))))
def c128 : ICode := b128
theorem w128 : W x Q c128 ks fr H ms = W x Q b128 ks fr H ms := rfl
def r128 : List IRes := [(.tmp 4)]
theorem t128 : Try.f128.body.bind (trCode Try.prog Try.f128.ntmps) = some (strip c128) := by kernel_rfl
theorem q128 : trRes Try.prog Try.f128.results.toList = some r128 := by kernel_rfl
theorem fn128 : Try.prog.funcs[128]? = some Try.f128 := by kernel_rfl
theorem nn128 : (Try.f128.name == "runtime.NumGoroutine") = false := by kernel_rfl
theorem nt128 : Try.f128.ntmps = 42 := by kernel_rfl
abbrev b135 : ICode :=
  (.seq (.ops [⟨some 2,(.mv (.k nilSl)),none⟩])
  (.seq (.seq (.ops [⟨some 3,(.mv (.t 0)),none⟩,⟨some 4,(.eqnil false (.t 3)),none⟩])
  (.cond (.t 4)
    (.seq (.ops [⟨some 2,(.mv (.k nilSl)),none⟩])
    .ret)
    .skip))
  (.seq (.ops [⟨some 5,(.bslice 4 0 [(I 0),(I 0),(I 0),(I 0)] []),none⟩,⟨some 6,(.mv (.t 0)),none⟩,⟨some 7,(.append 4 32 (.t 5) (.t 6)),none⟩,⟨some 2,(.mv (.t 7)),none⟩])
  .ret)))
def c135 : ICode := b135
theorem w135 : W x Q c135 ks fr H ms = W x Q b135 ks fr H ms := rfl
def r135 : List IRes := [(.tmp 2)]
theorem t135 : Try.f135.body.bind (trCode Try.prog Try.f135.ntmps) = some (strip c135) := by kernel_rfl
theorem q135 : trRes Try.prog Try.f135.results.toList = some r135 := by kernel_rfl
theorem fn135 : Try.prog.funcs[135]? = some Try.f135 := by kernel_rfl
theorem nn135 : (Try.f135.name == "runtime.NumGoroutine") = false := by kernel_rfl
theorem nt135 : Try.f135.ntmps = 8 := by kernel_rfl
abbrev b87T1 : ICode :=
  (.keep [] (.seq (.ops [⟨some 4,(.mv (.k (I (-1)))),none⟩])
  .ret))
def c87T1 : ICode := b87T1
theorem w87T1 : W x Q c87T1 ks fr H ms = W x Q b87T1 ks fr H ms := rfl
/- live: [0,1,7,8] -/
abbrev b87L0 : ICode :=
  (.seq (.ops [⟨some 9,(.bin .lss (.t 8) (.t 7)),none⟩])
  (.seq (.cond (.t 9)
    .skip
    (.exit 0))
  (.seq (.block 1 (.seq (.ops [⟨some 10,(.mv (.t 8)),none⟩,⟨some 5,(.mv (.t 10)),none⟩])
  (.seq (.ops [⟨some 11,(.mv (.t 1)),none⟩,⟨some 12,(.mv (.t 0)),none⟩,⟨some 13,(.mv (.t 5)),none⟩,⟨some 14,(.ixS 1 (.t 12) (.t 13)),none⟩,⟨some 15,(.load false 1 (.t 14)),none⟩,⟨some 16,(.call (.t 11) [(.t 15)]),none⟩])
  (.cond (.t 16)
    (.seq (.ops [⟨some 17,(.mv (.t 5)),none⟩,⟨some 4,(.mv (.t 17)),none⟩])
    .ret)
    .skip))))
  (.ops [⟨some 18,(.bin .add (.t 8) (.k (I 1))),none⟩,⟨some 8,(.mv (.t 18)),none⟩]))))
def c87L0 : ICode := b87L0
theorem w87L0 : W x Q c87L0 ks fr H ms = W x Q b87L0 ks fr H ms := rfl
abbrev b87 : ICode :=
  (.seq (.ops [⟨some 4,(.mv (.k (I 0))),none⟩])
  (.seq (.seq (.ops [⟨some 6,(.mv (.t 0)),none⟩,⟨some 7,(.len (.t 6)),none⟩,⟨some 8,(.mv (.k (I 0))),none⟩])
  (.block 0 (.loop c87L0)))
  c87T1))
def c87 : ICode := b87
theorem w87 : W x Q c87 ks fr H ms = W x Q b87 ks fr H ms := rfl
def r87 : List IRes := [(.tmp 4)]
theorem t87 : Try.f87.body.bind (trCode Try.prog Try.f87.ntmps) = some (strip c87) := by kernel_rfl
theorem q87 : trRes Try.prog Try.f87.results.toList = some r87 := by kernel_rfl
theorem fn87 : Try.prog.funcs[87]? = some Try.f87 := by kernel_rfl
theorem nn87 : (Try.f87.name == "runtime.NumGoroutine") = false := by kernel_rfl
theorem nt87 : Try.f87.ntmps = 19 := by kernel_rfl
abbrev b111 : ICode :=
  (.seq (.ops [⟨some 3,(.box (.t 0)),none⟩,⟨some 4,(.box (.t 1)),none⟩,⟨some 5,(.box (.t 2)),none⟩])
  (.seq (.ops [⟨some 6,(.alloc [(I 0),(I 0),(I 0),(I 0)]),none⟩])
  (.seq (.ops [⟨some 7,(.alloc [(.val .nilFunc)]),none⟩])
  (.seq (.ops [⟨some 8,(.mkfn (.func 132) [] [(.t 3),(.t 6),(.t 5),(.t 4),(.t 7)]),none⟩,⟨none,(.store 1 (.t 7) (.t 8)),none⟩])
  (.ops [⟨some 9,(.load false 1 (.t 7)),none⟩,⟨some 10,(.call (.t 9) [(.k (I 0))]),none⟩])))))
def c111 : ICode := b111
theorem w111 : W x Q c111 ks fr H ms = W x Q b111 ks fr H ms := rfl
def r111 : List IRes := []
theorem t111 : Try.f111.body.bind (trCode Try.prog Try.f111.ntmps) = some (strip c111) := by kernel_rfl
theorem q111 : trRes Try.prog Try.f111.results.toList = some r111 := by kernel_rfl
theorem fn111 : Try.prog.funcs[111]? = some Try.f111 := by kernel_rfl
theorem nn111 : (Try.f111.name == "runtime.NumGoroutine") = false := by kernel_rfl
theorem nt111 : Try.f111.ntmps = 11 := by kernel_rfl
abbrev b132T1 : ICode :=
  (.keep [0,2] (.ops [⟨some 46,(.mv (.t 0)),none⟩,⟨some 47,(.ixP 4 1 (.t 2) (.t 46)),none⟩,⟨none,(.store 1 (.t 47) (.k (I 0))),none⟩]))
def c132T1 : ICode := b132T1
theorem w132T1 : W x Q c132T1 ks fr H ms = W x Q b132T1 ks fr H ms := rfl
/- live: [0,1,2,4,5] -/
abbrev b132L0 : ICode :=
  (.seq (.seq (.draw 0 [] (.early 1 ⟨some 26,(.mv (.t 0)),none⟩
    (.early 1 ⟨some 27,(.ixP 4 1 (.t 2) (.t 26)),none⟩
    (.early 1 ⟨some 28,(.load false 1 (.t 27)),none⟩
    (.early 1 ⟨some 29,(.load false 1 (.t 4)),none⟩
    (.early 0 ⟨some 30,(.bin .leq (.t 28) (.t 29)),none⟩
    .done))))))
  (.keep [0,1,2,4,5,30] (.cond (.t 30)
    .skip
    (.exit 0))))
  (.seq (.block 1 (.seq (.ops [⟨some 36,(.load true 2 (.t 1)),none⟩,⟨some 37,(.load true 4 (.t 2)),none⟩,⟨some 38,(.mv (.t 0)),none⟩,⟨some 39,(.bin .add (.t 38) (.k (I 1))),none⟩,⟨some 40,(.load false 1 (.t 4)),none⟩,⟨some 41,(.call (.k (.fn (.func 133) [] [])) [(.t 36),(.t 37),(.t 39),(.t 40)]),none⟩])
  (.cond (.t 41)
    (.ops [⟨some 42,(.load false 1 (.t 5)),none⟩,⟨some 43,(.mv (.t 0)),none⟩,⟨some 44,(.bin .add (.t 43) (.k (I 1))),none⟩,⟨some 45,(.call (.t 42) [(.t 44)]),none⟩])
    .skip)))
  (.ops [⟨some 31,(.mv (.t 0)),none⟩,⟨some 32,(.ixP 4 1 (.t 2) (.t 31)),none⟩,⟨some 33,(.load false 1 (.t 32)),none⟩,⟨some 34,(.bin .add (.t 33) (.k (I 1))),none⟩,⟨some 35,(.ixP 4 1 (.t 2) (.t 31)),none⟩,⟨none,(.store 1 (.t 35) (.t 34)),none⟩])))
def c132L0 : ICode := b132L0
theorem w132L0 : W x Q c132L0 ks fr H ms = W x Q b132L0 ks fr H ms := rfl
abbrev b132 : ICode :=
  (.seq (.seq (.ops [⟨some 7,(.mv (.t 0)),none⟩,⟨some 8,(.fldA 1 (.t 1)),none⟩,⟨some 9,(.load false 1 (.t 8)),none⟩,⟨some 10,(.bin .eql (.t 7) (.t 9)),none⟩])
  (.cond (.t 10)
    (.seq (.seq (.ops [⟨some 11,(.load true 4 (.t 2)),none⟩,⟨some 12,(.build [(I 0),(I 0),(I 0),(I 0)] []),none⟩,⟨some 13,(.eqv true 4 (.t 11) (.t 12)),none⟩,⟨some 14,(.mv (.t 13)),none⟩,⟨some 15,(.load true 2 (.t 1)),some (14,true)⟩,⟨some 16,(.load true 4 (.t 2)),some (14,true)⟩,⟨some 17,(.call (.k (.fn (.func 67) [] [])) [(.t 15),(.t 16)]),some (14,true)⟩,⟨some 18,(.pick (.t 14) (.t 17) (.k (B false))),none⟩])
    (.cond (.t 18)
      (.ops [⟨some 19,(.load false 1 (.t 3)),none⟩,⟨some 20,(.load true 4 (.t 2)),none⟩,⟨some 21,(.call (.t 19) [(.t 20)]),none⟩])
      .skip))
    .ret)
    .skip))
  (.seq (.seq (.ops [⟨some 22,(.mv (.t 0)),none⟩,⟨some 23,(.load false 1 (.t 4)),none⟩,⟨some 24,(.un .neg (.t 23)),none⟩,⟨some 25,(.ixP 4 1 (.t 2) (.t 22)),none⟩,⟨none,(.store 1 (.t 25) (.t 24)),none⟩])
  (.block 0 (.loop c132L0)))
  c132T1))
def c132 : ICode := b132
theorem w132 : W x Q c132 ks fr H ms = W x Q b132 ks fr H ms := rfl
def r132 : List IRes := []
theorem t132 : Try.f132.body.bind (trCode Try.prog Try.f132.ntmps) = some (strip c132) := by kernel_rfl
theorem q132 : trRes Try.prog Try.f132.results.toList = some r132 := by kernel_rfl
theorem fn132 : Try.prog.funcs[132]? = some Try.f132 := by kernel_rfl
theorem nn132 : (Try.f132.name == "runtime.NumGoroutine") = false := by kernel_rfl
theorem nt132 : Try.f132.ntmps = 48 := by kernel_rfl
abbrev b133T4 : ICode :=
  (.keep [] (.seq (.ops [⟨some 8,(.mv (.k (B true))),none⟩])
  .ret))
def c133T4 : ICode := b133T4
theorem w133T4 : W x Q c133T4 ks fr H ms = W x Q b133T4 ks fr H ms := rfl
abbrev b133T3 : ICode :=
  (.keep [2,3,4,5,15,16,17] (.ops [⟨some 51,(.bin .add (.t 17) (.k (I 1))),none⟩,⟨some 17,(.mv (.t 51)),none⟩]))
def c133T3 : ICode := b133T3
theorem w133T3 : W x Q c133T3 ks fr H ms = W x Q b133T3 ks fr H ms := rfl
abbrev b133T2 : ICode :=
  (.keep [2,3,4,5,11,12,15,16,17] (.seq (.ops [⟨some 47,(.mv (.t 11)),none⟩,⟨some 48,(.call (.k (.fn (.func 102) [] [])) [(.t 47)]),none⟩,⟨some 49,(.mv (.t 12)),none⟩,⟨some 50,(.bin .gtr (.t 48) (.t 49)),none⟩])
  (.cond (.t 50)
    (.seq (.ops [⟨some 8,(.mv (.k (B false))),none⟩])
    .ret)
    .skip)))
def c133T2 : ICode := b133T2
theorem w133T2 : W x Q c133T2 ks fr H ms = W x Q b133T2 ks fr H ms := rfl
/- live: [2,3,4,5,10,11,12,15,16,17,22,23] -/
abbrev b133L1 : ICode :=
  (.seq (.ops [⟨some 24,(.bin .lss (.t 23) (.t 22)),none⟩])
  (.seq (.cond (.t 24)
    .skip
    (.exit 2))
  (.seq (.block 3 (.seq (.ops [⟨some 25,(.mv (.t 23)),none⟩,⟨some 13,(.mv (.t 25)),none⟩])
  (.seq (.ops [⟨some 26,(.mv (.t 13)),none⟩,⟨some 27,(.mv (.t 2)),none⟩,⟨some 28,(.bin .lss (.t 26) (.t 27)),none⟩])
  (.cond (.t 28)
    (.draw 0 [] (.early 1 ⟨some 29,(.mv (.t 11)),none⟩
      (.early 1 ⟨some 30,(.mv (.t 13)),none⟩
      (.early 1 ⟨some 31,(.ixP 4 1 (.t 10) (.t 30)),none⟩
      (.early 1 ⟨some 32,(.load false 1 (.t 31)),none⟩
      (.early 1 ⟨some 33,(.mv (.t 13)),none⟩
      (.early 1 ⟨some 34,(.ixP 4 1 (.t 5) (.t 33)),none⟩
      (.early 1 ⟨some 35,(.load false 1 (.t 34)),none⟩
      (.early 1 ⟨some 36,(.bin .mul (.t 32) (.t 35)),none⟩
      (.early 0 ⟨some 37,(.bin .add (.t 29) (.t 36)),none⟩
      (.early 0 ⟨some 11,(.mv (.t 37)),none⟩
      .done)))))))))))
    (.ops [⟨some 38,(.mv (.t 12)),none⟩,⟨some 39,(.mv (.t 13)),none⟩,⟨some 40,(.ixP 4 1 (.t 10) (.t 39)),none⟩,⟨some 41,(.load false 1 (.t 40)),none⟩,⟨some 42,(.call (.k (.fn (.func 102) [] [])) [(.t 41)]),none⟩,⟨some 43,(.mv (.t 3)),none⟩,⟨some 44,(.bin .mul (.t 42) (.t 43)),none⟩,⟨some 45,(.bin .add (.t 38) (.t 44)),none⟩,⟨some 12,(.mv (.t 45)),none⟩])))))
  (.ops [⟨some 46,(.bin .add (.t 23) (.k (I 1))),none⟩,⟨some 23,(.mv (.t 46)),none⟩]))))
def c133L1 : ICode := b133L1
theorem w133L1 : W x Q c133L1 ks fr H ms = W x Q b133L1 ks fr H ms := rfl
/- live: [2,3,4,5,15,16,17] -/
abbrev b133L0 : ICode :=
  (.seq (.ops [⟨some 18,(.bin .lss (.t 17) (.t 16)),none⟩])
  (.seq (.cond (.t 18)
    .skip
    (.exit 0))
  (.seq (.block 1 (.seq (.ops [⟨some 19,(.ixS 4 (.t 15) (.t 17)),none⟩,⟨some 20,(.load true 4 (.t 19)),none⟩,⟨some 10,(.alloc [(I 0),(I 0),(I 0),(I 0)]),none⟩,⟨none,(.store 4 (.t 10) (.t 20)),none⟩])
  (.seq (.ops [⟨some 11,(.mv (.k (I 0))),none⟩,⟨some 12,(.mv (.k (I 0))),none⟩])
  (.seq (.seq (.ops [⟨some 21,(.fldA 1 (.t 4)),none⟩,⟨some 22,(.load false 1 (.t 21)),none⟩,⟨some 23,(.mv (.k (I 0))),none⟩])
  (.block 2 (.loop c133L1)))
  c133T2))))
  c133T3)))
def c133L0 : ICode := b133L0
theorem w133L0 : W x Q c133L0 ks fr H ms = W x Q b133L0 ks fr H ms := rfl
abbrev b133 : ICode :=
  (.seq (.ops [⟨some 4,(.box (.t 0)),none⟩,⟨some 5,(.box (.t 1)),none⟩,⟨some 8,(.mv (.k (B false))),none⟩])
  (.seq (.seq (.ops [⟨some 14,(.fldA 0 (.t 4)),none⟩,⟨some 15,(.load false 1 (.t 14)),none⟩,⟨some 16,(.len (.t 15)),none⟩,⟨some 17,(.mv (.k (I 0))),none⟩])
  (.block 0 (.loop c133L0)))
  c133T4))
def c133 : ICode := b133
theorem w133 : W x Q c133 ks fr H ms = W x Q b133 ks fr H ms := rfl
def r133 : List IRes := [(.tmp 8)]
theorem t133 : Try.f133.body.bind (trCode Try.prog Try.f133.ntmps) = some (strip c133) := by kernel_rfl
theorem q133 : trRes Try.prog Try.f133.results.toList = some r133 := by kernel_rfl
theorem fn133 : Try.prog.funcs[133]? = some Try.f133 := by kernel_rfl
theorem nn133 : (Try.f133.name == "runtime.NumGoroutine") = false := by kernel_rfl
theorem nt133 : Try.f133.ntmps = 52 := by kernel_rfl
abbrev b113 : ICode :=
  (.seq (.ops [⟨some 2,(.box (.t 0)),none⟩])
  (.ops [⟨some 3,(.load false 1 (.t 1)),none⟩,⟨some 4,(.load true 4 (.t 2)),none⟩,⟨some 5,(.bslice 4 1 [(I 0),(I 0),(I 0),(I 0)] [(0,4,(.t 4))]),none⟩,⟨some 6,(.append 4 32 (.t 3) (.t 5)),none⟩,⟨none,(.store 1 (.t 1) (.t 6)),none⟩]))
def c113 : ICode := b113
theorem w113 : W x Q c113 ks fr H ms = W x Q b113 ks fr H ms := rfl
def r113 : List IRes := []
theorem t113 : Try.f113.body.bind (trCode Try.prog Try.f113.ntmps) = some (strip c113) := by kernel_rfl
theorem q113 : trRes Try.prog Try.f113.results.toList = some r113 := by kernel_rfl
theorem fn113 : Try.prog.funcs[113]? = some Try.f113 := by kernel_rfl
theorem nn113 : (Try.f113.name == "runtime.NumGoroutine") = false := by kernel_rfl
theorem nt113 : Try.f113.ntmps = 7 := by kernel_rfl
abbrev b85T4 : ICode :=
  (.keep [5] (.seq (.ops [⟨some 39,(.mv (.t 5)),none⟩,⟨some 2,(.mv (.t 39)),none⟩])
  .ret))
def c85T4 : ICode := b85T4
theorem w85T4 : W x Q c85T4 ks fr H ms = W x Q b85T4 ks fr H ms := rfl
abbrev b85T3 : ICode :=
  (.keep [5,18,19,20] (.ops [⟨some 38,(.bin .add (.t 20) (.k (I 1))),none⟩,⟨some 20,(.mv (.t 38)),none⟩]))
def c85T3 : ICode := b85T3
theorem w85T3 : W x Q c85T3 ks fr H ms = W x Q b85T3 ks fr H ms := rfl
abbrev b85T2 : ICode :=
  (.keep [5,7,18,19,20] (.ops [⟨some 34,(.mv (.t 5)),none⟩,⟨some 35,(.load true 4 (.t 7)),none⟩,⟨some 36,(.bslice 4 1 [(I 0),(I 0),(I 0),(I 0)] [(0,4,(.t 35))]),none⟩,⟨some 37,(.append 4 32 (.t 34) (.t 36)),none⟩,⟨some 5,(.mv (.t 37)),none⟩]))
def c85T2 : ICode := b85T2
theorem w85T2 : W x Q c85T2 ks fr H ms = W x Q b85T2 ks fr H ms := rfl
/- live: [5,7,18,19,20,24,25,26] -/
abbrev b85L1 : ICode :=
  (.seq (.ops [⟨some 27,(.bin .lss (.t 26) (.t 25)),none⟩])
  (.seq (.cond (.t 27)
    .skip
    (.exit 2))
  (.seq (.block 3 (.seq (.ops [⟨some 28,(.ixS 4 (.t 24) (.t 26)),none⟩,⟨some 29,(.load true 4 (.t 28)),none⟩,⟨some 9,(.alloc [(I 0),(I 0),(I 0),(I 0)]),none⟩,⟨none,(.store 4 (.t 9) (.t 29)),none⟩])
  (.seq (.ops [⟨some 30,(.load true 4 (.t 9)),none⟩,⟨some 31,(.load true 4 (.t 7)),none⟩,⟨some 32,(.call (.k (.fn (.func 65) [] [])) [(.t 30),(.t 31)]),none⟩])
  (.cond (.t 32)
    (.exit 1)
    .skip))))
  (.ops [⟨some 33,(.bin .add (.t 26) (.k (I 1))),none⟩,⟨some 26,(.mv (.t 33)),none⟩]))))
def c85L1 : ICode := b85L1
theorem w85L1 : W x Q c85L1 ks fr H ms = W x Q b85L1 ks fr H ms := rfl
/- live: [5,18,19,20] -/
abbrev b85L0 : ICode :=
  (.seq (.ops [⟨some 21,(.bin .lss (.t 20) (.t 19)),none⟩])
  (.seq (.cond (.t 21)
    .skip
    (.exit 0))
  (.seq (.block 1 (.seq (.ops [⟨some 22,(.ixS 4 (.t 18) (.t 20)),none⟩,⟨some 23,(.load true 4 (.t 22)),none⟩,⟨some 7,(.alloc [(I 0),(I 0),(I 0),(I 0)]),none⟩,⟨none,(.store 4 (.t 7) (.t 23)),none⟩])
  (.seq (.seq (.ops [⟨some 24,(.mv (.t 5)),none⟩,⟨some 25,(.len (.t 24)),none⟩,⟨some 26,(.mv (.k (I 0))),none⟩])
  (.block 2 (.loop c85L1)))
  c85T2)))
  c85T3)))
def c85L0 : ICode := b85L0
theorem w85L0 : W x Q c85L0 ks fr H ms = W x Q b85L0 ks fr H ms := rfl
abbrev b85 : ICode :=
  (.seq (.ops [⟨some 1,(.box (.t 0)),none⟩,⟨some 2,(.mv (.k nilSl)),none⟩])
  (.scope (.seq (.ops [⟨some 3,(.alloc [nilSl]),none⟩])
  (.seq (.draw 0 [] (.early 1 ⟨some 10,(.load true 2 (.t 1)),none⟩
    (.early 1 ⟨some 11,(.load true 2 (.t 1)),none⟩
    (.early 1 ⟨some 12,(.call (.k (.fn (.func 112) [] [])) [(.t 11)]),none⟩
    (.early 1 ⟨some 13,(.mkfn (.func 113) [] [(.t 3)]),none⟩
    (.step 0 0 ⟨some 14,(.call (.k (.fn (.func 111) [] [])) [(.t 10),(.t 12),(.t 13)]),none⟩
    .done))))))
  (.keep [3] (.seq (.ops [⟨some 4,(.alloc [(.val .nilFunc)]),none⟩,⟨none,(.store 1 (.t 4) (.k (.fn (.func 114) [] []))),none⟩])
  (.seq (.ops [⟨some 15,(.load false 1 (.t 3)),none⟩,⟨some 16,(.mkfn (.func 116) [] [(.t 4)]),none⟩,⟨some 17,(.call (.k (.fn (.func 115) [] [])) [(.t 15),(.t 16)]),none⟩])
  (.seq (.ops [⟨some 5,(.mv (.k nilSl)),none⟩])
  (.seq .skip
  (.seq (.seq (.ops [⟨some 18,(.load false 1 (.t 3)),none⟩,⟨some 19,(.len (.t 18)),none⟩,⟨some 20,(.mv (.k (I 0))),none⟩])
  (.block 0 (.loop c85L0)))
  c85T4))))))))))
def c85 : ICode := b85
theorem w85 : W x Q c85 ks fr H ms = W x Q b85 ks fr H ms := rfl
def r85 : List IRes := [(.tmp 2)]
theorem t85 : Try.f85.body.bind (trCode Try.prog Try.f85.ntmps) = some (strip c85) := by kernel_rfl
theorem q85 : trRes Try.prog Try.f85.results.toList = some r85 := by kernel_rfl
theorem fn85 : Try.prog.funcs[85]? = some Try.f85 := by kernel_rfl
theorem nn85 : (Try.f85.name == "runtime.NumGoroutine") = false := by kernel_rfl
theorem nt85 : Try.f85.ntmps = 40 := by kernel_rfl
abbrev b114 : ICode :=
  (.seq (.ops [⟨some 1,(.box (.t 0)),none⟩,⟨some 2,(.mv (.k (I 0))),none⟩])
  (.seq (.draw 0 [] (.early 1 ⟨some 3,(.ixP 4 1 (.t 1) (.k (I 0))),none⟩
    (.early 1 ⟨some 4,(.load false 1 (.t 3)),none⟩
    (.early 1 ⟨some 5,(.call (.k (.fn (.func 102) [] [])) [(.t 4)]),none⟩
    (.early 1 ⟨some 6,(.ixP 4 1 (.t 1) (.k (I 1))),none⟩
    (.early 1 ⟨some 7,(.load false 1 (.t 6)),none⟩
    (.early 1 ⟨some 8,(.call (.k (.fn (.func 102) [] [])) [(.t 7)]),none⟩
    (.early 1 ⟨some 9,(.bin .add (.t 5) (.t 8)),none⟩
    (.early 1 ⟨some 10,(.ixP 4 1 (.t 1) (.k (I 2))),none⟩
    (.early 1 ⟨some 11,(.load false 1 (.t 10)),none⟩
    (.early 1 ⟨some 12,(.call (.k (.fn (.func 102) [] [])) [(.t 11)]),none⟩
    (.early 1 ⟨some 13,(.bin .add (.t 9) (.t 12)),none⟩
    (.early 1 ⟨some 14,(.ixP 4 1 (.t 1) (.k (I 3))),none⟩
    (.early 1 ⟨some 15,(.load false 1 (.t 14)),none⟩
    (.early 1 ⟨some 16,(.call (.k (.fn (.func 102) [] [])) [(.t 15)]),none⟩
    (.early 0 ⟨some 17,(.bin .add (.t 13) (.t 16)),none⟩
    (.early 0 ⟨some 2,(.mv (.t 17)),none⟩
    .done)))))))))))))))))
  (.keep [2] .ret)))
def c114 : ICode := b114
theorem w114 : W x Q c114 ks fr H ms = W x Q b114 ks fr H ms := rfl
def r114 : List IRes := [(.tmp 2)]
theorem t114 : Try.f114.body.bind (trCode Try.prog Try.f114.ntmps) = some (strip c114) := by kernel_rfl
theorem q114 : trRes Try.prog Try.f114.results.toList = some r114 := by kernel_rfl
theorem fn114 : Try.prog.funcs[114]? = some Try.f114 := by kernel_rfl
theorem nn114 : (Try.f114.name == "runtime.NumGoroutine") = false := by kernel_rfl
theorem nt114 : Try.f114.ntmps = 18 := by kernel_rfl
abbrev b116 : ICode :=
  (.seq (.ops [⟨some 3,(.box (.t 0)),none⟩,⟨some 4,(.box (.t 1)),none⟩,⟨some 5,(.mv (.k (I 0))),none⟩])
  (.seq (.draw 0 [] (.early 1 ⟨some 6,(.load false 1 (.t 2)),none⟩
    (.early 1 ⟨some 7,(.load true 4 (.t 3)),none⟩
    (.early 1 ⟨some 8,(.call (.t 6) [(.t 7)]),none⟩
    (.early 1 ⟨some 9,(.load false 1 (.t 2)),none⟩
    (.early 1 ⟨some 10,(.load true 4 (.t 4)),none⟩
    (.step 0 0 ⟨some 11,(.call (.t 9) [(.t 10)]),none⟩
    (.early 0 ⟨some 12,(.bin .sub (.t 8) (.t 11)),none⟩
    (.early 0 ⟨some 5,(.mv (.t 12)),none⟩
    .done)))))))))
  (.keep [5] .ret)))
def c116 : ICode := b116
theorem w116 : W x Q c116 ks fr H ms = W x Q b116 ks fr H ms := rfl
def r116 : List IRes := [(.tmp 5)]
theorem t116 : Try.f116.body.bind (trCode Try.prog Try.f116.ntmps) = some (strip c116) := by kernel_rfl
theorem q116 : trRes Try.prog Try.f116.results.toList = some r116 := by kernel_rfl
theorem fn116 : Try.prog.funcs[116]? = some Try.f116 := by kernel_rfl
theorem nn116 : (Try.f116.name == "runtime.NumGoroutine") = false := by kernel_rfl
theorem nt116 : Try.f116.ntmps = 13 := by kernel_rfl
abbrev b67 : ICode :=
  (.seq (.ops [⟨some 2,(.box (.t 0)),none⟩,⟨some 3,(.box (.t 1)),none⟩,⟨some 4,(.mv (.k (B false))),none⟩])
  (.seq (.ops [⟨some 5,(.fldA 0 (.t 2)),none⟩,⟨some 6,(.load false 1 (.t 5)),none⟩,⟨some 7,(.mkfn (.func 104) [] [(.t 3)]),none⟩,⟨some 8,(.call (.k (.fn (.func 103) [] [])) [(.t 6),(.t 7)]),none⟩,⟨some 9,(.un .not (.t 8)),none⟩,⟨some 4,(.mv (.t 9)),none⟩])
  .ret))
def c67 : ICode := b67
theorem w67 : W x Q c67 ks fr H ms = W x Q b67 ks fr H ms := rfl
def r67 : List IRes := [(.tmp 4)]
theorem t67 : Try.f67.body.bind (trCode Try.prog Try.f67.ntmps) = some (strip c67) := by kernel_rfl
theorem q67 : trRes Try.prog Try.f67.results.toList = some r67 := by kernel_rfl
theorem fn67 : Try.prog.funcs[67]? = some Try.f67 := by kernel_rfl
theorem nn67 : (Try.f67.name == "runtime.NumGoroutine") = false := by kernel_rfl
theorem nt67 : Try.f67.ntmps = 10 := by kernel_rfl
abbrev b104 : ICode :=
  (.seq (.ops [⟨some 2,(.box (.t 0)),none⟩,⟨some 3,(.mv (.k (B false))),none⟩])
  (.seq (.ops [⟨some 4,(.load true 4 (.t 2)),none⟩,⟨some 5,(.load true 4 (.t 1)),none⟩,⟨some 6,(.call (.k (.fn (.func 82) [] [])) [(.t 4),(.t 5)]),none⟩,⟨some 7,(.bin .neq (.t 6) (.k (I 0))),none⟩,⟨some 3,(.mv (.t 7)),none⟩])
  .ret))
def c104 : ICode := b104
theorem w104 : W x Q c104 ks fr H ms = W x Q b104 ks fr H ms := rfl
def r104 : List IRes := [(.tmp 3)]
theorem t104 : Try.f104.body.bind (trCode Try.prog Try.f104.ntmps) = some (strip c104) := by kernel_rfl
theorem q104 : trRes Try.prog Try.f104.results.toList = some r104 := by kernel_rfl
theorem fn104 : Try.prog.funcs[104]? = some Try.f104 := by kernel_rfl
theorem nn104 : (Try.f104.name == "runtime.NumGoroutine") = false := by kernel_rfl
theorem nt104 : Try.f104.ntmps = 8 := by kernel_rfl
abbrev b103 : ICode :=
  (.seq (.ops [⟨some 4,(.mv (.k (B false))),none⟩])
  (.seq (.ops [⟨some 5,(.mv (.t 0)),none⟩,⟨some 6,(.mv (.t 1)),none⟩,⟨some 7,(.call (.k (.fn (.func 96) [] [])) [(.t 5),(.t 6)]),none⟩,⟨some 8,(.bin .geq (.t 7) (.k (I 0))),none⟩,⟨some 4,(.mv (.t 8)),none⟩])
  .ret))
def c103 : ICode := b103
theorem w103 : W x Q c103 ks fr H ms = W x Q b103 ks fr H ms := rfl
def r103 : List IRes := [(.tmp 4)]
theorem t103 : Try.f103.body.bind (trCode Try.prog Try.f103.ntmps) = some (strip c103) := by kernel_rfl
theorem q103 : trRes Try.prog Try.f103.results.toList = some r103 := by kernel_rfl
theorem fn103 : Try.prog.funcs[103]? = some Try.f103 := by kernel_rfl
theorem nn103 : (Try.f103.name == "runtime.NumGoroutine") = false := by kernel_rfl
theorem nt103 : Try.f103.ntmps = 9 := by kernel_rfl
abbrev b115 : ICode :=
  (.ops [⟨some 4,(.mv (.t 0)),none⟩,⟨some 5,(.mv (.t 0)),none⟩,⟨some 6,(.len (.t 5)),none⟩,⟨some 7,(.mv (.t 1)),none⟩,⟨some 8,(.call (.k (.fn (.func 138) [] [])) [(.t 4),(.t 6),(.t 7)]),none⟩])
def c115 : ICode := b115
theorem w115 : W x Q c115 ks fr H ms = W x Q b115 ks fr H ms := rfl
def r115 : List IRes := []
theorem t115 : Try.f115.body.bind (trCode Try.prog Try.f115.ntmps) = some (strip c115) := by kernel_rfl
theorem q115 : trRes Try.prog Try.f115.results.toList = some r115 := by kernel_rfl
theorem fn115 : Try.prog.funcs[115]? = some Try.f115 := by kernel_rfl
theorem nn115 : (Try.f115.name == "runtime.NumGoroutine") = false := by kernel_rfl
theorem nt115 : Try.f115.ntmps = 9 := by kernel_rfl
abbrev b138T4 : ICode :=
  (.keep [0,1,2,6,7] (.seq (.seq (.ops [⟨some 49,(.mv (.t 7)),none⟩,⟨some 50,(.mv (.t 6)),none⟩,⟨some 51,(.bin .add (.t 49) (.t 50)),none⟩,⟨some 9,(.mv (.t 51)),none⟩])
  (.seq (.ops [⟨some 52,(.mv (.t 9)),none⟩,⟨some 53,(.mv (.t 1)),none⟩,⟨some 54,(.bin .lss (.t 52) (.t 53)),none⟩])
  (.cond (.t 54)
    (.ops [⟨some 55,(.mv (.t 0)),none⟩,⟨some 56,(.mv (.t 7)),none⟩,⟨some 57,(.mv (.t 9)),none⟩,⟨some 58,(.mv (.t 1)),none⟩,⟨some 59,(.mv (.t 2)),none⟩,⟨some 60,(.call (.k (.fn (.func 145) [] [])) [(.t 55),(.t 56),(.t 57),(.t 58),(.t 59)]),none⟩])
    .skip)))
  (.ops [⟨some 61,(.mv (.t 6)),none⟩,⟨some 62,(.bin .mul (.t 61) (.k (I 2))),none⟩,⟨some 6,(.mv (.t 62)),none⟩])))
def c138T4 : ICode := b138T4
theorem w138T4 : W x Q c138T4 ks fr H ms = W x Q b138T4 ks fr H ms := rfl
/- live: [0,1,2,6,7,8] -/
abbrev b138L3 : ICode :=
  (.seq (.seq (.ops [⟨some 33,(.mv (.t 8)),none⟩,⟨some 34,(.mv (.t 1)),none⟩,⟨some 35,(.bin .leq (.t 33) (.t 34)),none⟩])
  (.cond (.t 35)
    .skip
    (.exit 4)))
  (.block 5 (.seq (.ops [⟨some 36,(.mv (.t 0)),none⟩,⟨some 37,(.mv (.t 7)),none⟩,⟨some 38,(.mv (.t 7)),none⟩,⟨some 39,(.mv (.t 6)),none⟩,⟨some 40,(.bin .add (.t 38) (.t 39)),none⟩,⟨some 41,(.mv (.t 8)),none⟩,⟨some 42,(.mv (.t 2)),none⟩,⟨some 43,(.call (.k (.fn (.func 145) [] [])) [(.t 36),(.t 37),(.t 40),(.t 41),(.t 42)]),none⟩])
  (.seq (.ops [⟨some 44,(.mv (.t 8)),none⟩,⟨some 7,(.mv (.t 44)),none⟩])
  (.ops [⟨some 45,(.mv (.t 8)),none⟩,⟨some 46,(.mv (.t 6)),none⟩,⟨some 47,(.bin .mul (.k (I 2)) (.t 46)),none⟩,⟨some 48,(.bin .add (.t 45) (.t 47)),none⟩,⟨some 8,(.mv (.t 48)),none⟩])))))
def c138L3 : ICode := b138L3
theorem w138L3 : W x Q c138L3 ks fr H ms = W x Q b138L3 ks fr H ms := rfl
/- live: [0,1,2,6] -/
abbrev b138L2 : ICode :=
  (.seq (.seq (.ops [⟨some 28,(.mv (.t 6)),none⟩,⟨some 29,(.mv (.t 1)),none⟩,⟨some 30,(.bin .lss (.t 28) (.t 29)),none⟩])
  (.cond (.t 30)
    .skip
    (.exit 2)))
  (.block 3 (.seq (.ops [⟨some 31,(.mv (.t 6)),none⟩,⟨some 32,(.bin .mul (.k (I 2)) (.t 31)),none⟩,⟨some 7,(.mv (.k (I 0))),none⟩,⟨some 8,(.mv (.t 32)),none⟩])
  (.seq (.block 4 (.loop c138L3))
  c138T4))))
def c138L2 : ICode := b138L2
theorem w138L2 : W x Q c138L2 ks fr H ms = W x Q b138L2 ks fr H ms := rfl
abbrev b138T1 : ICode :=
  (.keep [0,1,2,6,7] (.seq (.ops [⟨some 23,(.mv (.t 0)),none⟩,⟨some 24,(.mv (.t 7)),none⟩,⟨some 25,(.mv (.t 1)),none⟩,⟨some 26,(.mv (.t 2)),none⟩,⟨some 27,(.call (.k (.fn (.func 144) [] [])) [(.t 23),(.t 24),(.t 25),(.t 26)]),none⟩])
  (.block 2 (.loop c138L2))))
def c138T1 : ICode := b138T1
theorem w138T1 : W x Q c138T1 ks fr H ms = W x Q b138T1 ks fr H ms := rfl
/- live: [0,1,2,6,7,8] -/
abbrev b138L0 : ICode :=
  (.seq (.seq (.ops [⟨some 11,(.mv (.t 8)),none⟩,⟨some 12,(.mv (.t 1)),none⟩,⟨some 13,(.bin .leq (.t 11) (.t 12)),none⟩])
  (.cond (.t 13)
    .skip
    (.exit 0)))
  (.block 1 (.seq (.ops [⟨some 14,(.mv (.t 0)),none⟩,⟨some 15,(.mv (.t 7)),none⟩,⟨some 16,(.mv (.t 8)),none⟩,⟨some 17,(.mv (.t 2)),none⟩,⟨some 18,(.call (.k (.fn (.func 144) [] [])) [(.t 14),(.t 15),(.t 16),(.t 17)]),none⟩])
  (.seq (.ops [⟨some 19,(.mv (.t 8)),none⟩,⟨some 7,(.mv (.t 19)),none⟩])
  (.ops [⟨some 20,(.mv (.t 8)),none⟩,⟨some 21,(.mv (.t 6)),none⟩,⟨some 22,(.bin .add (.t 20) (.t 21)),none⟩,⟨some 8,(.mv (.t 22)),none⟩])))))
def c138L0 : ICode := b138L0
theorem w138L0 : W x Q c138L0 ks fr H ms = W x Q b138L0 ks fr H ms := rfl
abbrev b138 : ICode :=
  (.seq (.ops [⟨some 6,(.mv (.k (I 20))),none⟩])
  (.seq (.ops [⟨some 10,(.mv (.t 6)),none⟩,⟨some 7,(.mv (.k (I 0))),none⟩,⟨some 8,(.mv (.t 10)),none⟩])
  (.seq (.block 0 (.loop c138L0))
  c138T1)))
def c138 : ICode := b138
theorem w138 : W x Q c138 ks fr H ms = W x Q b138 ks fr H ms := rfl
def r138 : List IRes := []
theorem t138 : Try.f138.body.bind (trCode Try.prog Try.f138.ntmps) = some (strip c138) := by kernel_rfl
theorem q138 : trRes Try.prog Try.f138.results.toList = some r138 := by kernel_rfl
theorem fn138 : Try.prog.funcs[138]? = some Try.f138 := by kernel_rfl
theorem nn138 : (Try.f138.name == "runtime.NumGoroutine") = false := by kernel_rfl
theorem nt138 : Try.f138.ntmps = 63 := by kernel_rfl
abbrev b144T2 : ICode :=
  (.keep [0,1,2,3,8] (.ops [⟨some 15,(.mv (.t 8)),none⟩,⟨some 16,(.bin .add (.t 15) (.k (I 1))),none⟩,⟨some 8,(.mv (.t 16)),none⟩]))
def c144T2 : ICode := b144T2
theorem w144T2 : W x Q c144T2 ks fr H ms = W x Q b144T2 ks fr H ms := rfl
/- live: [0,1,2,3,8,9] -/
abbrev b144L1 : ICode :=
  (.seq (.seq (.draw 0 [] (.early 1 ⟨some 18,(.mv (.t 9)),none⟩
    (.early 1 ⟨some 19,(.mv (.t 1)),none⟩
    (.early 0 ⟨some 20,(.bin .gtr (.t 18) (.t 19)),none⟩
    (.early 0 ⟨some 21,(.mv (.t 20)),none⟩
    (.early 1 ⟨some 22,(.mv (.t 3)),some (21,true)⟩
    (.early 1 ⟨some 23,(.mv (.t 0)),some (21,true)⟩
    (.early 1 ⟨some 24,(.mv (.t 9)),some (21,true)⟩
    (.early 1 ⟨some 25,(.ixS 4 (.t 23) (.t 24)),some (21,true)⟩
    (.early 1 ⟨some 26,(.load true 4 (.t 25)),some (21,true)⟩
    (.early 1 ⟨some 27,(.mv (.t 0)),some (21,true)⟩
    (.early 1 ⟨some 28,(.mv (.t 9)),some (21,true)⟩
    (.early 1 ⟨some 29,(.bin .sub (.t 28) (.k (I 1))),some (21,true)⟩
    (.early 1 ⟨some 30,(.ixS 4 (.t 27) (.t 29)),some (21,true)⟩
    (.early 1 ⟨some 31,(.load true 4 (.t 30)),some (21,true)⟩
    (.step 0 0 ⟨some 32,(.call (.t 22) [(.t 26),(.t 31)]),some (21,true)⟩
    (.early 0 ⟨some 33,(.bin .lss (.t 32) (.k (I 0))),some (21,true)⟩
    (.early 0 ⟨some 34,(.pick (.t 21) (.t 33) (.k (B false))),none⟩
    .done))))))))))))))))))
  (.keep [0,1,2,3,8,9,34] (.cond (.t 34)
    .skip
    (.exit 2))))
  (.seq (.block 3 (.draw 0 [] (.early 1 ⟨some 37,(.mv (.t 0)),none⟩
    (.early 1 ⟨some 38,(.mv (.t 9)),none⟩
    (.early 2 ⟨some 39,(.mv (.t 0)),none⟩
    (.early 2 ⟨some 40,(.mv (.t 9)),none⟩
    (.early 2 ⟨some 41,(.bin .sub (.t 40) (.k (I 1))),none⟩
    (.early 1 ⟨some 42,(.mv (.t 0)),none⟩
    (.early 1 ⟨some 43,(.mv (.t 9)),none⟩
    (.early 1 ⟨some 44,(.bin .sub (.t 43) (.k (I 1))),none⟩
    (.early 1 ⟨some 45,(.ixS 4 (.t 42) (.t 44)),none⟩
    (.early 1 ⟨some 46,(.load true 4 (.t 45)),none⟩
    (.early 1 ⟨some 47,(.mv (.t 0)),none⟩
    (.early 1 ⟨some 48,(.mv (.t 9)),none⟩
    (.early 1 ⟨some 49,(.ixS 4 (.t 47) (.t 48)),none⟩
    (.early 1 ⟨some 50,(.load true 4 (.t 49)),none⟩
    (.early 1 ⟨some 51,(.ixS 4 (.t 37) (.t 38)),none⟩
    (.step 0 1 ⟨none,(.store 4 (.t 51) (.t 46)),none⟩
    (.early 0 ⟨some 52,(.ixS 4 (.t 39) (.t 41)),none⟩
    (.step 0 0 ⟨none,(.store 4 (.t 52) (.t 50)),none⟩
    .done))))))))))))))))))))
  (.ops [⟨some 35,(.mv (.t 9)),none⟩,⟨some 36,(.bin .sub (.t 35) (.k (I 1))),none⟩,⟨some 9,(.mv (.t 36)),none⟩])))
def c144L1 : ICode := b144L1
theorem w144L1 : W x Q c144L1 ks fr H ms = W x Q b144L1 ks fr H ms := rfl
/- live: [0,1,2,3,8] -/
abbrev b144L0 : ICode :=
  (.seq (.seq (.ops [⟨some 12,(.mv (.t 8)),none⟩,⟨some 13,(.mv (.t 2)),none⟩,⟨some 14,(.bin .lss (.t 12) (.t 13)),none⟩])
  (.cond (.t 14)
    .skip
    (.exit 0)))
  (.seq (.block 1 (.seq (.ops [⟨some 17,(.mv (.t 8)),none⟩,⟨some 9,(.mv (.t 17)),none⟩])
  (.block 2 (.loop c144L1))))
  c144T2))
def c144L0 : ICode := b144L0
theorem w144L0 : W x Q c144L0 ks fr H ms = W x Q b144L0 ks fr H ms := rfl
abbrev b144 : ICode :=
  (.seq (.ops [⟨some 10,(.mv (.t 1)),none⟩,⟨some 11,(.bin .add (.t 10) (.k (I 1))),none⟩,⟨some 8,(.mv (.t 11)),none⟩])
  (.block 0 (.loop c144L0)))
def c144 : ICode := b144
theorem w144 : W x Q c144 ks fr H ms = W x Q b144 ks fr H ms := rfl
def r144 : List IRes := []
theorem t144 : Try.f144.body.bind (trCode Try.prog Try.f144.ntmps) = some (strip c144) := by kernel_rfl
theorem q144 : trRes Try.prog Try.f144.results.toList = some r144 := by kernel_rfl
theorem fn144 : Try.prog.funcs[144]? = some Try.f144 := by kernel_rfl
theorem nn144 : (Try.f144.name == "runtime.NumGoroutine") = false := by kernel_rfl
theorem nt144 : Try.f144.ntmps = 53 := by kernel_rfl
abbrev b145T9 : ICode :=
  (.keep [0,1,2,3,4,18,19,20] (.seq (.ops [⟨some 175,(.mv (.t 19)),none⟩,⟨some 176,(.mv (.t 20)),none⟩,⟨some 177,(.bin .sub (.t 175) (.t 176)),none⟩,⟨some 24,(.mv (.t 177)),none⟩])
  (.seq (.seq (.ops [⟨some 178,(.mv (.t 20)),none⟩,⟨some 179,(.mv (.t 2)),none⟩,⟨some 180,(.bin .lss (.t 178) (.t 179)),none⟩,⟨some 181,(.mv (.t 180)),none⟩,⟨some 182,(.mv (.t 2)),some (181,true)⟩,⟨some 183,(.mv (.t 24)),some (181,true)⟩,⟨some 184,(.bin .lss (.t 182) (.t 183)),some (181,true)⟩,⟨some 185,(.pick (.t 181) (.t 184) (.k (B false))),none⟩])
  (.cond (.t 185)
    (.ops [⟨some 186,(.mv (.t 0)),none⟩,⟨some 187,(.mv (.t 20)),none⟩,⟨some 188,(.mv (.t 2)),none⟩,⟨some 189,(.mv (.t 24)),none⟩,⟨some 190,(.mv (.t 4)),none⟩,⟨some 191,(.call (.k (.fn (.func 147) [] [])) [(.t 186),(.t 187),(.t 188),(.t 189),(.t 190)]),none⟩])
    .skip))
  (.seq (.seq (.ops [⟨some 192,(.mv (.t 1)),none⟩,⟨some 193,(.mv (.t 20)),none⟩,⟨some 194,(.bin .lss (.t 192) (.t 193)),none⟩,⟨some 195,(.mv (.t 194)),none⟩,⟨some 196,(.mv (.t 20)),some (195,true)⟩,⟨some 197,(.mv (.t 18)),some (195,true)⟩,⟨some 198,(.bin .lss (.t 196) (.t 197)),some (195,true)⟩,⟨some 199,(.pick (.t 195) (.t 198) (.k (B false))),none⟩])
  (.cond (.t 199)
    (.ops [⟨some 200,(.mv (.t 0)),none⟩,⟨some 201,(.mv (.t 1)),none⟩,⟨some 202,(.mv (.t 20)),none⟩,⟨some 203,(.mv (.t 18)),none⟩,⟨some 204,(.mv (.t 4)),none⟩,⟨some 205,(.call (.k (.fn (.func 145) [] [])) [(.t 200),(.t 201),(.t 202),(.t 203),(.t 204)]),none⟩])
    .skip))
  (.seq (.ops [⟨some 206,(.mv (.t 18)),none⟩,⟨some 207,(.mv (.t 24)),none⟩,⟨some 208,(.bin .lss (.t 206) (.t 207)),none⟩,⟨some 209,(.mv (.t 208)),none⟩,⟨some 210,(.mv (.t 24)),some (209,true)⟩,⟨some 211,(.mv (.t 3)),some (209,true)⟩,⟨some 212,(.bin .lss (.t 210) (.t 211)),some (209,true)⟩,⟨some 213,(.pick (.t 209) (.t 212) (.k (B false))),none⟩])
  (.cond (.t 213)
    (.ops [⟨some 214,(.mv (.t 0)),none⟩,⟨some 215,(.mv (.t 18)),none⟩,⟨some 216,(.mv (.t 24)),none⟩,⟨some 217,(.mv (.t 3)),none⟩,⟨some 218,(.mv (.t 4)),none⟩,⟨some 219,(.call (.k (.fn (.func 145) [] [])) [(.t 214),(.t 215),(.t 216),(.t 217),(.t 218)]),none⟩])
    .skip))))))
def c145T9 : ICode := b145T9
/- live: [0,1,2,3,4,18,19,20,21,22] -/
abbrev b145L8 : ICode :=
  (.seq (.seq (.ops [⟨some 149,(.mv (.t 20)),none⟩,⟨some 150,(.mv (.t 21)),none⟩,⟨some 151,(.bin .lss (.t 149) (.t 150)),none⟩])
  (.cond (.t 151)
    .skip
    (.exit 8)))
  (.block 9 (.seq (.ops [⟨some 152,(.mv (.t 20)),none⟩,⟨some 153,(.mv (.t 21)),none⟩,⟨some 154,(.bin .add (.t 152) (.t 153)),none⟩,⟨some 155,(.conv .u64 (.t 154)),none⟩,⟨some 156,(.bin .shr (.t 155) (.k (.val (.int .u64 1)))),none⟩,⟨some 157,(.conv .i64 (.t 156)),none⟩,⟨some 23,(.mv (.t 157)),none⟩])
  (.seq (.draw 0 [] (.early 1 ⟨some 158,(.mv (.t 4)),none⟩
    (.early 1 ⟨some 159,(.mv (.t 0)),none⟩
    (.early 1 ⟨some 160,(.mv (.t 22)),none⟩
    (.early 1 ⟨some 161,(.mv (.t 23)),none⟩
    (.early 1 ⟨some 162,(.bin .sub (.t 160) (.t 161)),none⟩
    (.early 1 ⟨some 163,(.ixS 4 (.t 159) (.t 162)),none⟩
    (.early 1 ⟨some 164,(.load true 4 (.t 163)),none⟩
    (.early 1 ⟨some 165,(.mv (.t 0)),none⟩
    (.early 1 ⟨some 166,(.mv (.t 23)),none⟩
    (.early 1 ⟨some 167,(.ixS 4 (.t 165) (.t 166)),none⟩
    (.early 1 ⟨some 168,(.load true 4 (.t 167)),none⟩
    (.step 0 0 ⟨some 169,(.call (.t 158) [(.t 164),(.t 168)]),none⟩
    (.early 0 ⟨some 170,(.bin .lss (.t 169) (.k (I 0))),none⟩
    (.early 0 ⟨some 171,(.un .not (.t 170)),none⟩
    .done)))))))))))))))
  (.keep [0,1,2,3,4,18,19,20,21,22,23,171] (.cond (.t 171)
    (.ops [⟨some 172,(.mv (.t 23)),none⟩,⟨some 173,(.bin .add (.t 172) (.k (I 1))),none⟩,⟨some 20,(.mv (.t 173)),none⟩])
    (.ops [⟨some 174,(.mv (.t 23)),none⟩,⟨some 21,(.mv (.t 174)),none⟩])))))))
def c145L8 : ICode := b145L8
theorem w145L8 : W x Q c145L8 ks fr H ms = W x Q b145L8 ks fr H ms := rfl
abbrev b145T7 : ICode :=
  (.keep [0,1,2,3,4] (.seq (.ops [⟨some 129,(.mv (.t 1)),none⟩,⟨some 130,(.mv (.t 3)),none⟩,⟨some 131,(.bin .add (.t 129) (.t 130)),none⟩,⟨some 132,(.conv .u64 (.t 131)),none⟩,⟨some 133,(.bin .shr (.t 132) (.k (.val (.int .u64 1)))),none⟩,⟨some 134,(.conv .i64 (.t 133)),none⟩,⟨some 18,(.mv (.t 134)),none⟩])
  (.seq (.ops [⟨some 135,(.mv (.t 18)),none⟩,⟨some 136,(.mv (.t 2)),none⟩,⟨some 137,(.bin .add (.t 135) (.t 136)),none⟩,⟨some 19,(.mv (.t 137)),none⟩])
  (.seq (.ops [⟨some 20,(.mv (.k (I 0))),none⟩,⟨some 21,(.mv (.k (I 0))),none⟩])
  (.seq (.seq (.ops [⟨some 138,(.mv (.t 2)),none⟩,⟨some 139,(.mv (.t 18)),none⟩,⟨some 140,(.bin .gtr (.t 138) (.t 139)),none⟩])
  (.cond (.t 140)
    (.seq (.ops [⟨some 141,(.mv (.t 19)),none⟩,⟨some 142,(.mv (.t 3)),none⟩,⟨some 143,(.bin .sub (.t 141) (.t 142)),none⟩,⟨some 20,(.mv (.t 143)),none⟩])
    (.ops [⟨some 144,(.mv (.t 18)),none⟩,⟨some 21,(.mv (.t 144)),none⟩]))
    (.seq (.ops [⟨some 145,(.mv (.t 1)),none⟩,⟨some 20,(.mv (.t 145)),none⟩])
    (.ops [⟨some 146,(.mv (.t 2)),none⟩,⟨some 21,(.mv (.t 146)),none⟩]))))
  (.seq (.ops [⟨some 147,(.mv (.t 19)),none⟩,⟨some 148,(.bin .sub (.t 147) (.k (I 1))),none⟩,⟨some 22,(.mv (.t 148)),none⟩])
  (.seq (.block 8 (.loop c145L8))
  c145T9)))))))
def c145T7 : ICode := b145T7
theorem w145T7 : W x Q c145T7 ks fr H ms = W x Q b145T7 ks fr H ms := rfl
/- live: [0,14,17] -/
abbrev b145L6 : ICode :=
  (.seq (.seq (.ops [⟨some 108,(.mv (.t 17)),none⟩,⟨some 109,(.mv (.t 14)),none⟩,⟨some 110,(.bin .gtr (.t 108) (.t 109)),none⟩])
  (.cond (.t 110)
    .skip
    (.exit 6)))
  (.seq (.block 7 (.draw 0 [] (.early 1 ⟨some 113,(.mv (.t 0)),none⟩
    (.early 1 ⟨some 114,(.mv (.t 17)),none⟩
    (.early 2 ⟨some 115,(.mv (.t 0)),none⟩
    (.early 2 ⟨some 116,(.mv (.t 17)),none⟩
    (.early 2 ⟨some 117,(.bin .sub (.t 116) (.k (I 1))),none⟩
    (.early 1 ⟨some 118,(.mv (.t 0)),none⟩
    (.early 1 ⟨some 119,(.mv (.t 17)),none⟩
    (.early 1 ⟨some 120,(.bin .sub (.t 119) (.k (I 1))),none⟩
    (.early 1 ⟨some 121,(.ixS 4 (.t 118) (.t 120)),none⟩
    (.early 1 ⟨some 122,(.load true 4 (.t 121)),none⟩
    (.early 1 ⟨some 123,(.mv (.t 0)),none⟩
    (.early 1 ⟨some 124,(.mv (.t 17)),none⟩
    (.early 1 ⟨some 125,(.ixS 4 (.t 123) (.t 124)),none⟩
    (.early 1 ⟨some 126,(.load true 4 (.t 125)),none⟩
    (.early 1 ⟨some 127,(.ixS 4 (.t 113) (.t 114)),none⟩
    (.step 0 1 ⟨none,(.store 4 (.t 127) (.t 122)),none⟩
    (.early 0 ⟨some 128,(.ixS 4 (.t 115) (.t 117)),none⟩
    (.step 0 0 ⟨none,(.store 4 (.t 128) (.t 126)),none⟩
    .done))))))))))))))))))))
  (.ops [⟨some 111,(.mv (.t 17)),none⟩,⟨some 112,(.bin .sub (.t 111) (.k (I 1))),none⟩,⟨some 17,(.mv (.t 112)),none⟩])))
def c145L6 : ICode := b145L6
theorem w145L6 : W x Q c145L6 ks fr H ms = W x Q b145L6 ks fr H ms := rfl
abbrev b145T5 : ICode :=
  (.keep [0,2,14] (.seq (.seq (.ops [⟨some 107,(.mv (.t 2)),none⟩,⟨some 17,(.mv (.t 107)),none⟩])
  (.block 6 (.loop c145L6)))
  .ret))
def c145T5 : ICode := b145T5
theorem w145T5 : W x Q c145T5 ks fr H ms = W x Q b145T5 ks fr H ms := rfl
/- live: [0,2,4,14,15] -/
abbrev b145L4 : ICode :=
  (.seq (.seq (.ops [⟨some 83,(.mv (.t 14)),none⟩,⟨some 84,(.mv (.t 15)),none⟩,⟨some 85,(.bin .lss (.t 83) (.t 84)),none⟩])
  (.cond (.t 85)
    .skip
    (.exit 4)))
  (.block 5 (.seq (.ops [⟨some 86,(.mv (.t 14)),none⟩,⟨some 87,(.mv (.t 15)),none⟩,⟨some 88,(.bin .add (.t 86) (.t 87)),none⟩,⟨some 89,(.conv .u64 (.t 88)),none⟩,⟨some 90,(.bin .shr (.t 89) (.k (.val (.int .u64 1)))),none⟩,⟨some 91,(.conv .i64 (.t 90)),none⟩,⟨some 16,(.mv (.t 91)),none⟩])
  (.seq (.draw 0 [] (.early 1 ⟨some 92,(.mv (.t 4)),none⟩
    (.early 1 ⟨some 93,(.mv (.t 0)),none⟩
    (.early 1 ⟨some 94,(.mv (.t 2)),none⟩
    (.early 1 ⟨some 95,(.ixS 4 (.t 93) (.t 94)),none⟩
    (.early 1 ⟨some 96,(.load true 4 (.t 95)),none⟩
    (.early 1 ⟨some 97,(.mv (.t 0)),none⟩
    (.early 1 ⟨some 98,(.mv (.t 16)),none⟩
    (.early 1 ⟨some 99,(.ixS 4 (.t 97) (.t 98)),none⟩
    (.early 1 ⟨some 100,(.load true 4 (.t 99)),none⟩
    (.step 0 0 ⟨some 101,(.call (.t 92) [(.t 96),(.t 100)]),none⟩
    (.early 0 ⟨some 102,(.bin .lss (.t 101) (.k (I 0))),none⟩
    (.early 0 ⟨some 103,(.un .not (.t 102)),none⟩
    .done)))))))))))))
  (.keep [0,2,4,14,15,16,103] (.cond (.t 103)
    (.ops [⟨some 104,(.mv (.t 16)),none⟩,⟨some 105,(.bin .add (.t 104) (.k (I 1))),none⟩,⟨some 14,(.mv (.t 105)),none⟩])
    (.ops [⟨some 106,(.mv (.t 16)),none⟩,⟨some 15,(.mv (.t 106)),none⟩])))))))
def c145L4 : ICode := b145L4
theorem w145L4 : W x Q c145L4 ks fr H ms = W x Q b145L4 ks fr H ms := rfl
abbrev b145T3 : ICode :=
  (.keep [0,1,2,3,4] (.seq (.seq (.ops [⟨some 77,(.mv (.t 3)),none⟩,⟨some 78,(.mv (.t 2)),none⟩,⟨some 79,(.bin .sub (.t 77) (.t 78)),none⟩,⟨some 80,(.bin .eql (.t 79) (.k (I 1))),none⟩])
  (.cond (.t 80)
    (.seq (.ops [⟨some 81,(.mv (.t 1)),none⟩,⟨some 14,(.mv (.t 81)),none⟩])
    (.seq (.ops [⟨some 82,(.mv (.t 2)),none⟩,⟨some 15,(.mv (.t 82)),none⟩])
    (.seq (.block 4 (.loop c145L4))
    c145T5)))
    .skip))
  c145T7))
def c145T3 : ICode := b145T3
theorem w145T3 : W x Q c145T3 ks fr H ms = W x Q b145T3 ks fr H ms := rfl
/- live: [0,10,13] -/
abbrev b145L2 : ICode :=
  (.seq (.seq (.ops [⟨some 55,(.mv (.t 13)),none⟩,⟨some 56,(.mv (.t 10)),none⟩,⟨some 57,(.bin .sub (.t 56) (.k (I 1))),none⟩,⟨some 58,(.bin .lss (.t 55) (.t 57)),none⟩])
  (.cond (.t 58)
    .skip
    (.exit 2)))
  (.seq (.block 3 (.draw 0 [] (.early 1 ⟨some 61,(.mv (.t 0)),none⟩
    (.early 1 ⟨some 62,(.mv (.t 13)),none⟩
    (.early 2 ⟨some 63,(.mv (.t 0)),none⟩
    (.early 2 ⟨some 64,(.mv (.t 13)),none⟩
    (.early 2 ⟨some 65,(.bin .add (.t 64) (.k (I 1))),none⟩
    (.early 1 ⟨some 66,(.mv (.t 0)),none⟩
    (.early 1 ⟨some 67,(.mv (.t 13)),none⟩
    (.early 1 ⟨some 68,(.bin .add (.t 67) (.k (I 1))),none⟩
    (.early 1 ⟨some 69,(.ixS 4 (.t 66) (.t 68)),none⟩
    (.early 1 ⟨some 70,(.load true 4 (.t 69)),none⟩
    (.early 1 ⟨some 71,(.mv (.t 0)),none⟩
    (.early 1 ⟨some 72,(.mv (.t 13)),none⟩
    (.early 1 ⟨some 73,(.ixS 4 (.t 71) (.t 72)),none⟩
    (.early 1 ⟨some 74,(.load true 4 (.t 73)),none⟩
    (.early 1 ⟨some 75,(.ixS 4 (.t 61) (.t 62)),none⟩
    (.step 0 1 ⟨none,(.store 4 (.t 75) (.t 70)),none⟩
    (.early 0 ⟨some 76,(.ixS 4 (.t 63) (.t 65)),none⟩
    (.step 0 0 ⟨none,(.store 4 (.t 76) (.t 74)),none⟩
    .done))))))))))))))))))))
  (.ops [⟨some 59,(.mv (.t 13)),none⟩,⟨some 60,(.bin .add (.t 59) (.k (I 1))),none⟩,⟨some 13,(.mv (.t 60)),none⟩])))
def c145L2 : ICode := b145L2
theorem w145L2 : W x Q c145L2 ks fr H ms = W x Q b145L2 ks fr H ms := rfl
abbrev b145T1 : ICode :=
  (.keep [0,1,10] (.seq (.seq (.ops [⟨some 54,(.mv (.t 1)),none⟩,⟨some 13,(.mv (.t 54)),none⟩])
  (.block 2 (.loop c145L2)))
  .ret))
def c145T1 : ICode := b145T1
theorem w145T1 : W x Q c145T1 ks fr H ms = W x Q b145T1 ks fr H ms := rfl
/- live: [0,1,4,10,11] -/
abbrev b145L0 : ICode :=
  (.seq (.seq (.ops [⟨some 31,(.mv (.t 10)),none⟩,⟨some 32,(.mv (.t 11)),none⟩,⟨some 33,(.bin .lss (.t 31) (.t 32)),none⟩])
  (.cond (.t 33)
    .skip
    (.exit 0)))
  (.block 1 (.seq (.ops [⟨some 34,(.mv (.t 10)),none⟩,⟨some 35,(.mv (.t 11)),none⟩,⟨some 36,(.bin .add (.t 34) (.t 35)),none⟩,⟨some 37,(.conv .u64 (.t 36)),none⟩,⟨some 38,(.bin .shr (.t 37) (.k (.val (.int .u64 1)))),none⟩,⟨some 39,(.conv .i64 (.t 38)),none⟩,⟨some 12,(.mv (.t 39)),none⟩])
  (.seq (.draw 0 [] (.early 1 ⟨some 40,(.mv (.t 4)),none⟩
    (.early 1 ⟨some 41,(.mv (.t 0)),none⟩
    (.early 1 ⟨some 42,(.mv (.t 12)),none⟩
    (.early 1 ⟨some 43,(.ixS 4 (.t 41) (.t 42)),none⟩
    (.early 1 ⟨some 44,(.load true 4 (.t 43)),none⟩
    (.early 1 ⟨some 45,(.mv (.t 0)),none⟩
    (.early 1 ⟨some 46,(.mv (.t 1)),none⟩
    (.early 1 ⟨some 47,(.ixS 4 (.t 45) (.t 46)),none⟩
    (.early 1 ⟨some 48,(.load true 4 (.t 47)),none⟩
    (.step 0 0 ⟨some 49,(.call (.t 40) [(.t 44),(.t 48)]),none⟩
    (.early 0 ⟨some 50,(.bin .lss (.t 49) (.k (I 0))),none⟩
    .done))))))))))))
  (.keep [0,1,4,10,11,12,50] (.cond (.t 50)
    (.ops [⟨some 51,(.mv (.t 12)),none⟩,⟨some 52,(.bin .add (.t 51) (.k (I 1))),none⟩,⟨some 10,(.mv (.t 52)),none⟩])
    (.ops [⟨some 53,(.mv (.t 12)),none⟩,⟨some 11,(.mv (.t 53)),none⟩])))))))
def c145L0 : ICode := b145L0
theorem w145L0 : W x Q c145L0 ks fr H ms = W x Q b145L0 ks fr H ms := rfl
abbrev b145 : ICode :=
  (.seq (.seq (.ops [⟨some 25,(.mv (.t 2)),none⟩,⟨some 26,(.mv (.t 1)),none⟩,⟨some 27,(.bin .sub (.t 25) (.t 26)),none⟩,⟨some 28,(.bin .eql (.t 27) (.k (I 1))),none⟩])
  (.cond (.t 28)
    (.seq (.ops [⟨some 29,(.mv (.t 2)),none⟩,⟨some 10,(.mv (.t 29)),none⟩])
    (.seq (.ops [⟨some 30,(.mv (.t 3)),none⟩,⟨some 11,(.mv (.t 30)),none⟩])
    (.seq (.block 0 (.loop c145L0))
    c145T1)))
    .skip))
  c145T3)
def c145 : ICode := b145
theorem w145 : W x Q c145 ks fr H ms = W x Q b145 ks fr H ms := rfl
def r145 : List IRes := []
theorem t145 : Try.f145.body.bind (trCode Try.prog Try.f145.ntmps) = some (strip c145) := by kernel_rfl
theorem q145 : trRes Try.prog Try.f145.results.toList = some r145 := by kernel_rfl
theorem fn145 : Try.prog.funcs[145]? = some Try.f145 := by kernel_rfl
theorem nn145 : (Try.f145.name == "runtime.NumGoroutine") = false := by kernel_rfl
theorem nt145 : Try.f145.ntmps = 220 := by kernel_rfl
abbrev b147T1 : ICode :=
  (.keep [0,2,4,10] (.ops [⟨some 50,(.mv (.t 0)),none⟩,⟨some 51,(.mv (.t 2)),none⟩,⟨some 52,(.mv (.t 10)),none⟩,⟨some 53,(.bin .sub (.t 51) (.t 52)),none⟩,⟨some 54,(.mv (.t 2)),none⟩,⟨some 55,(.mv (.t 10)),none⟩,⟨some 56,(.mv (.t 4)),none⟩,⟨some 57,(.call (.k (.fn (.func 148) [] [])) [(.t 50),(.t 53),(.t 54),(.t 55),(.t 56)]),none⟩]))
def c147T1 : ICode := b147T1
theorem w147T1 : W x Q c147T1 ks fr H ms = W x Q b147T1 ks fr H ms := rfl
/- live: [0,2,4,10,11] -/
abbrev b147L0 : ICode :=
  (.seq (.seq (.ops [⟨some 18,(.mv (.t 10)),none⟩,⟨some 19,(.mv (.t 11)),none⟩,⟨some 20,(.bin .neq (.t 18) (.t 19)),none⟩])
  (.cond (.t 20)
    .skip
    (.exit 0)))
  (.block 1 (.seq (.ops [⟨some 21,(.mv (.t 10)),none⟩,⟨some 22,(.mv (.t 11)),none⟩,⟨some 23,(.bin .gtr (.t 21) (.t 22)),none⟩])
  (.cond (.t 23)
    (.seq (.ops [⟨some 24,(.mv (.t 0)),none⟩,⟨some 25,(.mv (.t 2)),none⟩,⟨some 26,(.mv (.t 10)),none⟩,⟨some 27,(.bin .sub (.t 25) (.t 26)),none⟩,⟨some 28,(.mv (.t 2)),none⟩,⟨some 29,(.mv (.t 11)),none⟩,⟨some 30,(.mv (.t 4)),none⟩,⟨some 31,(.call (.k (.fn (.func 148) [] [])) [(.t 24),(.t 27),(.t 28),(.t 29),(.t 30)]),none⟩])
    (.ops [⟨some 32,(.mv (.t 10)),none⟩,⟨some 33,(.mv (.t 11)),none⟩,⟨some 34,(.bin .sub (.t 32) (.t 33)),none⟩,⟨some 10,(.mv (.t 34)),none⟩]))
    (.seq (.ops [⟨some 35,(.mv (.t 0)),none⟩,⟨some 36,(.mv (.t 2)),none⟩,⟨some 37,(.mv (.t 10)),none⟩,⟨some 38,(.bin .sub (.t 36) (.t 37)),none⟩,⟨some 39,(.mv (.t 2)),none⟩,⟨some 40,(.mv (.t 11)),none⟩,⟨some 41,(.bin .add (.t 39) (.t 40)),none⟩,⟨some 42,(.mv (.t 10)),none⟩,⟨some 43,(.bin .sub (.t 41) (.t 42)),none⟩,⟨some 44,(.mv (.t 10)),none⟩,⟨some 45,(.mv (.t 4)),none⟩,⟨some 46,(.call (.k (.fn (.func 148) [] [])) [(.t 35),(.t 38),(.t 43),(.t 44),(.t 45)]),none⟩])
    (.ops [⟨some 47,(.mv (.t 11)),none⟩,⟨some 48,(.mv (.t 10)),none⟩,⟨some 49,(.bin .sub (.t 47) (.t 48)),none⟩,⟨some 11,(.mv (.t 49)),none⟩]))))))
def c147L0 : ICode := b147L0
theorem w147L0 : W x Q c147L0 ks fr H ms = W x Q b147L0 ks fr H ms := rfl
abbrev b147 : ICode :=
  (.seq (.ops [⟨some 12,(.mv (.t 2)),none⟩,⟨some 13,(.mv (.t 1)),none⟩,⟨some 14,(.bin .sub (.t 12) (.t 13)),none⟩,⟨some 10,(.mv (.t 14)),none⟩])
  (.seq (.ops [⟨some 15,(.mv (.t 3)),none⟩,⟨some 16,(.mv (.t 2)),none⟩,⟨some 17,(.bin .sub (.t 15) (.t 16)),none⟩,⟨some 11,(.mv (.t 17)),none⟩])
  (.seq (.block 0 (.loop c147L0))
  c147T1)))
def c147 : ICode := b147
theorem w147 : W x Q c147 ks fr H ms = W x Q b147 ks fr H ms := rfl
def r147 : List IRes := []
theorem t147 : Try.f147.body.bind (trCode Try.prog Try.f147.ntmps) = some (strip c147) := by kernel_rfl
theorem q147 : trRes Try.prog Try.f147.results.toList = some r147 := by kernel_rfl
theorem fn147 : Try.prog.funcs[147]? = some Try.f147 := by kernel_rfl
theorem nn147 : (Try.f147.name == "runtime.NumGoroutine") = false := by kernel_rfl
theorem nt147 : Try.f147.ntmps = 58 := by kernel_rfl
/- live: [0,1,2,3,10] -/
abbrev b148L0 : ICode :=
  (.seq (.seq (.ops [⟨some 11,(.mv (.t 10)),none⟩,⟨some 12,(.mv (.t 3)),none⟩,⟨some 13,(.bin .lss (.t 11) (.t 12)),none⟩])
  (.cond (.t 13)
    .skip
    (.exit 0)))
  (.seq (.block 1 (.draw 0 [] (.early 1 ⟨some 16,(.mv (.t 0)),none⟩
    (.early 1 ⟨some 17,(.mv (.t 1)),none⟩
    (.early 1 ⟨some 18,(.mv (.t 10)),none⟩
    (.early 1 ⟨some 19,(.bin .add (.t 17) (.t 18)),none⟩
    (.early 2 ⟨some 20,(.mv (.t 0)),none⟩
    (.early 2 ⟨some 21,(.mv (.t 2)),none⟩
    (.early 2 ⟨some 22,(.mv (.t 10)),none⟩
    (.early 2 ⟨some 23,(.bin .add (.t 21) (.t 22)),none⟩
    (.early 1 ⟨some 24,(.mv (.t 0)),none⟩
    (.early 1 ⟨some 25,(.mv (.t 2)),none⟩
    (.early 1 ⟨some 26,(.mv (.t 10)),none⟩
    (.early 1 ⟨some 27,(.bin .add (.t 25) (.t 26)),none⟩
    (.early 1 ⟨some 28,(.ixS 4 (.t 24) (.t 27)),none⟩
    (.early 1 ⟨some 29,(.load true 4 (.t 28)),none⟩
    (.early 1 ⟨some 30,(.mv (.t 0)),none⟩
    (.early 1 ⟨some 31,(.mv (.t 1)),none⟩
    (.early 1 ⟨some 32,(.mv (.t 10)),none⟩
    (.early 1 ⟨some 33,(.bin .add (.t 31) (.t 32)),none⟩
    (.early 1 ⟨some 34,(.ixS 4 (.t 30) (.t 33)),none⟩
    (.early 1 ⟨some 35,(.load true 4 (.t 34)),none⟩
    (.early 1 ⟨some 36,(.ixS 4 (.t 16) (.t 19)),none⟩
    (.step 0 1 ⟨none,(.store 4 (.t 36) (.t 29)),none⟩
    (.early 0 ⟨some 37,(.ixS 4 (.t 20) (.t 23)),none⟩
    (.step 0 0 ⟨none,(.store 4 (.t 37) (.t 35)),none⟩
    .done))))))))))))))))))))))))))
  (.ops [⟨some 14,(.mv (.t 10)),none⟩,⟨some 15,(.bin .add (.t 14) (.k (I 1))),none⟩,⟨some 10,(.mv (.t 15)),none⟩])))
def c148L0 : ICode := b148L0
theorem w148L0 : W x Q c148L0 ks fr H ms = W x Q b148L0 ks fr H ms := rfl
abbrev b148 : ICode :=
  (.seq (.ops [⟨some 10,(.mv (.k (I 0))),none⟩])
  (.block 0 (.loop c148L0)))
def c148 : ICode := b148
theorem w148 : W x Q c148 ks fr H ms = W x Q b148 ks fr H ms := rfl
def r148 : List IRes := []
theorem t148 : Try.f148.body.bind (trCode Try.prog Try.f148.ntmps) = some (strip c148) := by kernel_rfl
theorem q148 : trRes Try.prog Try.f148.results.toList = some r148 := by kernel_rfl
theorem fn148 : Try.prog.funcs[148]? = some Try.f148 := by kernel_rfl
theorem nn148 : (Try.f148.name == "runtime.NumGoroutine") = false := by kernel_rfl
theorem nt148 : Try.f148.ntmps = 38 := by kernel_rfl
abbrev b71 : ICode :=
  (.seq (.ops [⟨some 2,(.box (.t 0)),none⟩,⟨some 3,(.box (.t 1)),none⟩,⟨some 4,(.mv (.k nilSl)),none⟩])
  (.seq (.ops [⟨some 5,(.fldA 1 (.t 2)),none⟩,⟨some 6,(.load false 1 (.t 5)),none⟩,⟨some 7,(.slP 4 1 (.t 3) none (some (.t 6))),none⟩,⟨some 8,(.call (.k (.fn (.func 38) [] [])) [(.t 7)]),none⟩,⟨some 4,(.mv (.t 8)),none⟩])
  .ret))
def c71 : ICode := b71
theorem w71 : W x Q c71 ks fr H ms = W x Q b71 ks fr H ms := rfl
def r71 : List IRes := [(.tmp 4)]
theorem t71 : Try.f71.body.bind (trCode Try.prog Try.f71.ntmps) = some (strip c71) := by kernel_rfl
theorem q71 : trRes Try.prog Try.f71.results.toList = some r71 := by kernel_rfl
theorem fn71 : Try.prog.funcs[71]? = some Try.f71 := by kernel_rfl
theorem nn71 : (Try.f71.name == "runtime.NumGoroutine") = false := by kernel_rfl
theorem nt71 : Try.f71.ntmps = 9 := by kernel_rfl
/- live: [2,5,8,9,10] -/
/- live: [0,1,9,10,11] -/
abbrev b130 : ICode :=
  (.seq (.ops [⟨some 1,(.box (.t 0)),none⟩,⟨some 2,(.mv (.k (B false))),none⟩])
  (.seq (.ops [⟨some 3,(.slP 4 1 (.t 1) none none),none⟩,⟨some 4,(.call (.k (.fn (.func 72) [] [])) [(.t 3)]),none⟩,⟨some 5,(.bin .geq (.t 4) (.k (I 0))),none⟩,⟨some 2,(.mv (.t 5)),none⟩])
  .ret))
def c130 : ICode := b130
theorem w130 : W x Q c130 ks fr H ms = W x Q b130 ks fr H ms := rfl
def r130 : List IRes := [(.tmp 2)]
theorem t130 : Try.f130.body.bind (trCode Try.prog Try.f130.ntmps) = some (strip c130) := by kernel_rfl
theorem q130 : trRes Try.prog Try.f130.results.toList = some r130 := by kernel_rfl
theorem fn130 : Try.prog.funcs[130]? = some Try.f130 := by kernel_rfl
theorem nn130 : (Try.f130.name == "runtime.NumGoroutine") = false := by kernel_rfl
theorem nt130 : Try.f130.ntmps = 6 := by kernel_rfl
end Go.Proofs.Ytipfjfmdjmaflaa
