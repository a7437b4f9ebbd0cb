/- The code of some functions of the program,cleaned: printed by a program of mine,checked here. -/
import Derived.Test.YtlonaefihjdkpaaProg
import Derived.Test.YtlonaefihjdkpaaAS
import Derived.Test.YtlonaefihjdkpaaTLA
import Derived.KernelRfl
namespace Go.Proofs.Ytlonaefihjdkpaa
open Go.Abs AVal
variable {x : Cx} {Q : QT} {ks : List Kont} {fr : Fr} {H : AHeap} {ms : List Nat}
abbrev b16R0a : ICode :=
  (.ops [⟨some 10,(.mv (.t 25)),none⟩])
def c16R0a : ICode := b16R0a
theorem w16R0a : W x Q c16R0a ks fr H ms = W x Q b16R0a ks fr H ms := rfl
theorem t16R0a : trCode Try.prog 46 (asOf Try.f16 0) = some (strip c16R0a) := by kernel_rfl
abbrev b16R0b : ICode :=
  (.block 1 (.draw 0 [] (.early 1 ⟨some 26,(.load false 1 (.t 9)),none⟩
    (.early 1 ⟨some 27,(.load false 1 (.t 4)),none⟩
    (.early 1 ⟨some 28,(.mv (.t 10)),none⟩
    (.early 1 ⟨some 29,(.bin .andNot (.t 27) (.t 28)),none⟩
    (.early 1 ⟨some 30,(.call (.k (.fn (.func 36) [] [])) [(.t 29)]),none⟩
    (.early 1 ⟨some 31,(.load false 1 (.t 8)),none⟩
    (.early 1 ⟨some 32,(.mv (.t 10)),none⟩
    (.early 1 ⟨some 33,(.call (.k (.fn (.func 38) [] [])) [(.t 31),(.t 32)]),none⟩
    (.early 1 ⟨some 34,(.load false 1 (.t 5)),none⟩
    (.early 1 ⟨some 35,(.call (.k (.fn (.func 37) [] [])) [(.t 33),(.t 34)]),none⟩
    (.early 1 ⟨some 36,(.bin .mul (.t 30) (.t 35)),none⟩
    (.early 0 ⟨some 37,(.bin .add (.t 26) (.t 36)),none⟩
    (.step 0 0 ⟨none,(.store 1 (.t 9) (.t 37)),none⟩
    .done)))))))))))))))
def c16R0b : ICode := b16R0b
theorem w16R0b : W x Q c16R0b ks fr H ms = W x Q b16R0b ks fr H ms := rfl
theorem t16R0b : trCode Try.prog 46 (bdOf Try.f16 0) = some (strip c16R0b) := by kernel_rfl
abbrev b16T0 : ICode :=
  (.seq (.draw 0 [] (.early 1 ⟨some 38,(.load false 1 (.t 9)),none⟩
    (.early 1 ⟨some 39,(.load false 1 (.t 8)),none⟩
    (.early 1 ⟨some 40,(.load false 1 (.t 8)),none⟩
    (.early 1 ⟨some 41,(.call (.k (.fn (.func 40) [] [])) [(.t 40)]),none⟩
    (.early 1 ⟨some 42,(.call (.k (.fn (.func 38) [] [])) [(.t 39),(.t 41)]),none⟩
    (.early 1 ⟨some 43,(.load false 1 (.t 5)),none⟩
    (.early 1 ⟨some 44,(.call (.k (.fn (.func 37) [] [])) [(.t 42),(.t 43)]),none⟩
    (.step 0 0 ⟨some 45,(.call (.k (.fn (.func 39) [] [])) [(.t 38),(.t 44)]),none⟩
    (.step 0 0 ⟨none,(.store 2 (.t 6) (.t 45)),none⟩
    (.early 0 ⟨some 7,(.mv (.k (I 0))),none⟩
    .done)))))))))))
  .ret)
def c16T0 : ICode := b16T0
theorem w16T0 : W x Q c16T0 ks fr H ms = W x Q b16T0 ks fr H ms := rfl
noncomputable abbrev b16 : ICode :=
  (.seq (.ops [⟨(some 4),(.box (.t 1)),none⟩,
    ⟨(some 5),(.box (.t 2)),none⟩,
    ⟨(some 6),(.alloc [(I 0),(I 0)]),none⟩,
    ⟨(some 7),(.mv (.k (I 0))),none⟩])
  (.seq (.ops [⟨(some 11),(.mv (.t 0)),none⟩,
    ⟨(some 8),(.alloc [nilSl]),none⟩,
    ⟨none,(.store 1 (.t 8) (.t 11)),none⟩])
  (.seq (.seq (.ops [⟨(some 12),(.load false 1 (.t 8)),none⟩,
    ⟨(some 13),(.load false 1 (.t 4)),none⟩,
    ⟨(some 14),(.bslice 1 1 [(I 0)] [(0,1,(.t 13))]),none⟩,
    ⟨(some 15),(.call (.k (.fn (.func 33) [] [])) [(.t 12),(.t 14)]),none⟩,
    ⟨(some 16),(.un .not (.t 15)),none⟩,
    ⟨(some 17),(.mv (.t 16)),none⟩,
    ⟨(some 18),(.load false 1 (.t 5)),(some (17,false))⟩,
    ⟨(some 19),(.call (.k (.fn (.func 34) [] [])) [(.t 18)]),(some (17,false))⟩,
    ⟨(some 20),(.un .not (.t 19)),(some (17,false))⟩,
    ⟨(some 21),(.pick (.t 17) (.k (B true)) (.t 20)),none⟩])
  (.cond (.t 21)
    (.seq (.ops [⟨(some 22),(.build [(I 0),(I 0)] []),none⟩,
      ⟨none,(.store 2 (.t 6) (.t 22)),none⟩,
      ⟨(some 7),(.mv (.k (I 2))),none⟩])
    .ret)
    .skip))
  (.seq (.ops [⟨(some 9),(.alloc [(I 0)]),none⟩,
    ⟨none,(.store 1 (.t 9) (.k (I 0))),none⟩])
  (.seq (.seq (.ops [⟨(some 23),(.load false 1 (.t 4)),none⟩,
    ⟨(some 24),(.call (.k (.fn (.func 35) [] [])) [(.t 23)]),none⟩])
  (.block 0 (.range (.t 24) [25] (asOf Try.f16 0) (bdOf Try.f16 0))))
  c16T0)))))
noncomputable def c16 : ICode := b16
theorem w16 : W x Q c16 ks fr H ms = W x Q b16 ks fr H ms := rfl
def r16 : List IRes := [(.cell true 2 6),(.tmp 7)]
theorem t16 : Try.f16.body.bind (trCode Try.prog Try.f16.ntmps) = some (strip c16) := by kernel_rfl
theorem q16 : trRes Try.prog Try.f16.results.toList = some r16 := by kernel_rfl
theorem fn16 : Try.prog.funcs[16]? = some Try.f16 := by kernel_rfl
theorem nn16 : (Try.f16.name == "runtime.NumGoroutine") = false := by kernel_rfl
theorem nt16 : Try.f16.ntmps = 46 := by kernel_rfl
abbrev b17 : ICode :=
  (.seq (.ops [⟨some 0,(.mv (.k (B false))),none⟩])
  (.seq (.ops [⟨some 4,(.bslice 1 2 [(I 0)] [(0,1,(.k (I 1))),(1,1,(.k (I 1)))]),none⟩,⟨some 5,(.call (.k (.fn (.func 41) [] [])) [(.t 4),(.k (I 3))]),none⟩,⟨some 3,(.mv (.t 5)),none⟩,⟨some 6,(.ext (.t 3) 0),none⟩,⟨some 7,(.ext (.t 3) 1),none⟩,⟨some 1,(.alloc [(I 0),(I 0)]),none⟩,⟨none,(.store 2 (.t 1) (.t 6)),none⟩,⟨some 2,(.mv (.t 7)),none⟩])
  (.seq (.ops [⟨some 8,(.mv (.t 2)),none⟩,⟨some 9,(.bin .eql (.t 8) (.k (I 0))),none⟩,⟨some 10,(.mv (.t 9)),none⟩,⟨some 11,(.load true 2 (.t 1)),some (10,true)⟩,⟨some 12,(.build [(I 0),(I 0)] [(0,1,(.k (I 3))),(1,1,(.k (I 1)))]),some (10,true)⟩,⟨some 13,(.eqv false 2 (.t 11) (.t 12)),some (10,true)⟩,⟨some 14,(.pick (.t 10) (.t 13) (.k (B false))),none⟩,⟨some 0,(.mv (.t 14)),none⟩])
  .ret)))
def c17 : ICode := b17
theorem w17 : W x Q c17 ks fr H ms = W x Q b17 ks fr H ms := rfl
def r17 : List IRes := [(.tmp 0)]
theorem t17 : Try.f17.body.bind (trCode Try.prog Try.f17.ntmps) = some (strip c17) := by kernel_rfl
theorem q17 : trRes Try.prog Try.f17.results.toList = some r17 := by kernel_rfl
theorem fn17 : Try.prog.funcs[17]? = some Try.f17 := by kernel_rfl
theorem nn17 : (Try.f17.name == "runtime.NumGoroutine") = false := by kernel_rfl
theorem nt17 : Try.f17.ntmps = 15 := by kernel_rfl
abbrev b33 : ICode :=
  (.seq (.ops [⟨some 2,(.box (.t 0)),none⟩,⟨some 4,(.mv (.k (B false))),none⟩])
  (.seq (.ops [⟨some 5,(.load false 1 (.t 2)),none⟩,⟨some 6,(.call (.k (.fn (.func 61) [] [])) [(.t 5)]),none⟩,⟨some 7,(.mv (.t 6)),none⟩,⟨some 8,(.mv (.t 1)),some (7,true)⟩,⟨some 9,(.mkfn (.func 63) [] [(.t 2)]),some (7,true)⟩,⟨some 10,(.call (.k (.fn (.func 62) [] [])) [(.t 8),(.t 9)]),some (7,true)⟩,⟨some 11,(.un .not (.t 10)),some (7,true)⟩,⟨some 12,(.pick (.t 7) (.t 11) (.k (B false))),none⟩,⟨some 4,(.mv (.t 12)),none⟩])
  .ret))
def c33 : ICode := b33
theorem w33 : W x Q c33 ks fr H ms = W x Q b33 ks fr H ms := rfl
def r33 : List IRes := [(.tmp 4)]
theorem t33 : Try.f33.body.bind (trCode Try.prog Try.f33.ntmps) = some (strip c33) := by kernel_rfl
theorem q33 : trRes Try.prog Try.f33.results.toList = some r33 := by kernel_rfl
theorem fn33 : Try.prog.funcs[33]? = some Try.f33 := by kernel_rfl
theorem nn33 : (Try.f33.name == "runtime.NumGoroutine") = false := by kernel_rfl
theorem nt33 : Try.f33.ntmps = 13 := by kernel_rfl
abbrev b34 : ICode :=
  (.seq (.ops [⟨some 2,(.mv (.k (B false))),none⟩])
  (.seq (.ops [⟨some 3,(.mv (.t 0)),none⟩,⟨some 4,(.bin .geq (.t 3) (.k (I 0))),none⟩,⟨some 5,(.mv (.t 4)),none⟩,⟨some 6,(.mv (.t 0)),some (5,true)⟩,⟨some 7,(.bin .leq (.t 6) (.k (I 8))),some (5,true)⟩,⟨some 8,(.pick (.t 5) (.t 7) (.k (B false))),none⟩,⟨some 2,(.mv (.t 8)),none⟩])
  .ret))
def c34 : ICode := b34
theorem w34 : W x Q c34 ks fr H ms = W x Q b34 ks fr H ms := rfl
def r34 : List IRes := [(.tmp 2)]
theorem t34 : Try.f34.body.bind (trCode Try.prog Try.f34.ntmps) = some (strip c34) := by kernel_rfl
theorem q34 : trRes Try.prog Try.f34.results.toList = some r34 := by kernel_rfl
theorem fn34 : Try.prog.funcs[34]? = some Try.f34 := by kernel_rfl
theorem nn34 : (Try.f34.name == "runtime.NumGoroutine") = false := by kernel_rfl
theorem nt34 : Try.f34.ntmps = 9 := by kernel_rfl
abbrev b35 : ICode :=
  (.seq (.ops [⟨some 1,(.box (.t 0)),none⟩,⟨some 2,(.mv (.k (.val .nilFunc))),none⟩])
  (.seq (.ops [⟨some 3,(.mkfn (.func 64) [] [(.t 1)]),none⟩,⟨some 2,(.mv (.t 3)),none⟩])
  .ret))
def c35 : ICode := b35
theorem w35 : W x Q c35 ks fr H ms = W x Q b35 ks fr H ms := rfl
def r35 : List IRes := [(.tmp 2)]
theorem t35 : Try.f35.body.bind (trCode Try.prog Try.f35.ntmps) = some (strip c35) := by kernel_rfl
theorem q35 : trRes Try.prog Try.f35.results.toList = some r35 := by kernel_rfl
theorem fn35 : Try.prog.funcs[35]? = some Try.f35 := by kernel_rfl
theorem nn35 : (Try.f35.name == "runtime.NumGoroutine") = false := by kernel_rfl
theorem nt35 : Try.f35.ntmps = 4 := by kernel_rfl
abbrev b36T1 : ICode :=
  (.keep [3] (.seq (.ops [⟨some 12,(.mv (.t 3)),none⟩,⟨some 2,(.mv (.t 12)),none⟩])
  .ret))
def c36T1 : ICode := b36T1
theorem w36T1 : W x Q c36T1 ks fr H ms = W x Q b36T1 ks fr H ms := rfl
/- live: [0,3] -/
abbrev b36L0 : ICode :=
  (.seq (.seq (.ops [⟨some 4,(.mv (.t 0)),none⟩,⟨some 5,(.bin .neq (.t 4) (.k (I 0))),none⟩])
  (.cond (.t 5)
    .skip
    (.exit 0)))
  (.seq (.block 1 (.ops [⟨some 10,(.mv (.t 3)),none⟩,⟨some 11,(.un .neg (.t 10)),none⟩,⟨some 3,(.mv (.t 11)),none⟩]))
  (.ops [⟨some 6,(.mv (.t 0)),none⟩,⟨some 7,(.mv (.t 0)),none⟩,⟨some 8,(.bin .sub (.t 7) (.k (I 1))),none⟩,⟨some 9,(.bin .and (.t 6) (.t 8)),none⟩,⟨some 0,(.mv (.t 9)),none⟩])))
def c36L0 : ICode := b36L0
theorem w36L0 : W x Q c36L0 ks fr H ms = W x Q b36L0 ks fr H ms := rfl
abbrev b36 : ICode :=
  (.seq (.ops [⟨some 2,(.mv (.k (I 0))),none⟩])
  (.seq (.ops [⟨some 3,(.mv (.k (I 1))),none⟩])
  (.seq (.block 0 (.loop c36L0))
  c36T1)))
def c36 : ICode := b36
theorem w36 : W x Q c36 ks fr H ms = W x Q b36 ks fr H ms := rfl
def r36 : List IRes := [(.tmp 2)]
theorem t36 : Try.f36.body.bind (trCode Try.prog Try.f36.ntmps) = some (strip c36) := by kernel_rfl
theorem q36 : trRes Try.prog Try.f36.results.toList = some r36 := by kernel_rfl
theorem fn36 : Try.prog.funcs[36]? = some Try.f36 := by kernel_rfl
theorem nn36 : (Try.f36.name == "runtime.NumGoroutine") = false := by kernel_rfl
theorem nt36 : Try.f36.ntmps = 13 := by kernel_rfl
abbrev b37T1 : ICode :=
  (.keep [5] (.seq (.ops [⟨some 13,(.mv (.t 5)),none⟩,⟨some 4,(.mv (.t 13)),none⟩])
  .ret))
def c37T1 : ICode := b37T1
theorem w37T1 : W x Q c37T1 ks fr H ms = W x Q b37T1 ks fr H ms := rfl
/- live: [0,5,6,7] -/
abbrev b37L0 : ICode :=
  (.seq (.ops [⟨some 8,(.bin .lss (.t 7) (.t 6)),none⟩])
  (.seq (.cond (.t 8)
    .skip
    (.exit 0))
  (.seq (.block 1 (.ops [⟨some 9,(.mv (.t 5)),none⟩,⟨some 10,(.mv (.t 0)),none⟩,⟨some 11,(.bin .mul (.t 9) (.t 10)),none⟩,⟨some 5,(.mv (.t 11)),none⟩]))
  (.ops [⟨some 12,(.bin .add (.t 7) (.k (I 1))),none⟩,⟨some 7,(.mv (.t 12)),none⟩]))))
def c37L0 : ICode := b37L0
theorem w37L0 : W x Q c37L0 ks fr H ms = W x Q b37L0 ks fr H ms := rfl
abbrev b37 : ICode :=
  (.seq (.ops [⟨some 4,(.mv (.k (I 0))),none⟩])
  (.seq (.ops [⟨some 5,(.mv (.k (I 1))),none⟩])
  (.seq (.seq (.ops [⟨some 6,(.mv (.t 1)),none⟩,⟨some 7,(.mv (.k (I 0))),none⟩])
  (.block 0 (.loop c37L0)))
  c37T1)))
def c37 : ICode := b37
theorem w37 : W x Q c37 ks fr H ms = W x Q b37 ks fr H ms := rfl
def r37 : List IRes := [(.tmp 4)]
theorem t37 : Try.f37.body.bind (trCode Try.prog Try.f37.ntmps) = some (strip c37) := by kernel_rfl
theorem q37 : trRes Try.prog Try.f37.results.toList = some r37 := by kernel_rfl
theorem fn37 : Try.prog.funcs[37]? = some Try.f37 := by kernel_rfl
theorem nn37 : (Try.f37.name == "runtime.NumGoroutine") = false := by kernel_rfl
theorem nt37 : Try.f37.ntmps = 14 := by kernel_rfl
abbrev b38T1 : ICode :=
  (.keep [5] (.seq (.ops [⟨some 24,(.mv (.t 5)),none⟩,⟨some 4,(.mv (.t 24)),none⟩])
  .ret))
def c38T1 : ICode := b38T1
theorem w38T1 : W x Q c38T1 ks fr H ms = W x Q b38T1 ks fr H ms := rfl
/- live: [1,5,8,9,10] -/
abbrev b38L0 : ICode :=
  (.seq (.ops [⟨some 11,(.bin .lss (.t 10) (.t 9)),none⟩])
  (.seq (.cond (.t 11)
    .skip
    (.exit 0))
  (.seq (.block 1 (.seq (.ops [⟨some 12,(.mv (.t 10)),none⟩,⟨some 13,(.ixS 1 (.t 8) (.t 10)),none⟩,⟨some 14,(.load false 1 (.t 13)),none⟩,⟨some 6,(.mv (.t 12)),none⟩,⟨some 7,(.mv (.t 14)),none⟩])
  (.ops [⟨some 15,(.mv (.t 5)),none⟩,⟨some 16,(.mv (.t 1)),none⟩,⟨some 17,(.mv (.t 6)),none⟩,⟨some 18,(.bin .shr (.t 16) (.t 17)),none⟩,⟨some 19,(.bin .and (.t 18) (.k (I 1))),none⟩,⟨some 20,(.mv (.t 7)),none⟩,⟨some 21,(.bin .mul (.t 19) (.t 20)),none⟩,⟨some 22,(.bin .add (.t 15) (.t 21)),none⟩,⟨some 5,(.mv (.t 22)),none⟩])))
  (.ops [⟨some 23,(.bin .add (.t 10) (.k (I 1))),none⟩,⟨some 10,(.mv (.t 23)),none⟩]))))
def c38L0 : ICode := b38L0
theorem w38L0 : W x Q c38L0 ks fr H ms = W x Q b38L0 ks fr H ms := rfl
abbrev b38 : ICode :=
  (.seq (.ops [⟨some 4,(.mv (.k (I 0))),none⟩])
  (.seq (.ops [⟨some 5,(.mv (.k (I 0))),none⟩])
  (.seq (.seq (.ops [⟨some 8,(.mv (.t 0)),none⟩,⟨some 9,(.len (.t 8)),none⟩,⟨some 10,(.mv (.k (I 0))),none⟩])
  (.block 0 (.loop c38L0)))
  c38T1)))
def c38 : ICode := b38
theorem w38 : W x Q c38 ks fr H ms = W x Q b38 ks fr H ms := rfl
def r38 : List IRes := [(.tmp 4)]
theorem t38 : Try.f38.body.bind (trCode Try.prog Try.f38.ntmps) = some (strip c38) := by kernel_rfl
theorem q38 : trRes Try.prog Try.f38.results.toList = some r38 := by kernel_rfl
theorem fn38 : Try.prog.funcs[38]? = some Try.f38 := by kernel_rfl
theorem nn38 : (Try.f38.name == "runtime.NumGoroutine") = false := by kernel_rfl
theorem nt38 : Try.f38.ntmps = 25 := by kernel_rfl
abbrev b39 : ICode :=
  (.seq (.ops [⟨some 4,(.alloc [(I 0),(I 0)]),none⟩])
  (.seq (.ops [⟨some 6,(.mv (.t 0)),none⟩,⟨some 7,(.mv (.t 1)),none⟩,⟨some 8,(.call (.k (.fn (.func 65) [] [])) [(.t 6),(.t 7)]),none⟩,⟨some 5,(.mv (.t 8)),none⟩])
  (.seq (.draw 0 [] (.early 1 ⟨some 9,(.mv (.t 0)),none⟩
    (.early 1 ⟨some 10,(.mv (.t 5)),none⟩
    (.early 1 ⟨some 11,(.bin .quo (.t 9) (.t 10)),none⟩
    (.early 1 ⟨some 12,(.mv (.t 1)),none⟩
    (.early 1 ⟨some 13,(.mv (.t 5)),none⟩
    (.early 1 ⟨some 14,(.bin .quo (.t 12) (.t 13)),none⟩
    (.early 0 ⟨some 15,(.build [(I 0),(I 0)] [(0,1,(.t 11)),(1,1,(.t 14))]),none⟩
    (.step 0 0 ⟨none,(.store 2 (.t 4) (.t 15)),none⟩
    .done)))))))))
  (.keep [4] .ret))))
def c39 : ICode := b39
theorem w39 : W x Q c39 ks fr H ms = W x Q b39 ks fr H ms := rfl
def r39 : List IRes := [(.cell true 2 4)]
theorem t39 : Try.f39.body.bind (trCode Try.prog Try.f39.ntmps) = some (strip c39) := by kernel_rfl
theorem q39 : trRes Try.prog Try.f39.results.toList = some r39 := by kernel_rfl
theorem fn39 : Try.prog.funcs[39]? = some Try.f39 := by kernel_rfl
theorem nn39 : (Try.f39.name == "runtime.NumGoroutine") = false := by kernel_rfl
theorem nt39 : Try.f39.ntmps = 16 := by kernel_rfl
abbrev b40 : ICode :=
  (.seq (.ops [⟨some 2,(.mv (.k (I 0))),none⟩])
  (.seq (.ops [⟨some 3,(.mv (.t 0)),none⟩,⟨some 4,(.len (.t 3)),none⟩,⟨some 5,(.bin .shl (.k (I 1)) (.t 4)),none⟩,⟨some 6,(.bin .sub (.t 5) (.k (I 1))),none⟩,⟨some 2,(.mv (.t 6)),none⟩])
  .ret))
def c40 : ICode := b40
theorem w40 : W x Q c40 ks fr H ms = W x Q b40 ks fr H ms := rfl
def r40 : List IRes := [(.tmp 2)]
theorem t40 : Try.f40.body.bind (trCode Try.prog Try.f40.ntmps) = some (strip c40) := by kernel_rfl
theorem q40 : trRes Try.prog Try.f40.results.toList = some r40 := by kernel_rfl
theorem fn40 : Try.prog.funcs[40]? = some Try.f40 := by kernel_rfl
theorem nn40 : (Try.f40.name == "runtime.NumGoroutine") = false := by kernel_rfl
theorem nt40 : Try.f40.ntmps = 7 := by kernel_rfl
abbrev b41R0a : ICode :=
  (.ops [⟨some 8,(.mv (.t 19)),none⟩])
def c41R0a : ICode := b41R0a
theorem w41R0a : W x Q c41R0a ks fr H ms = W x Q b41R0a ks fr H ms := rfl
theorem t41R0a : trCode Try.prog 37 (asOf Try.f41 0) = some (strip c41R0a) := by kernel_rfl
abbrev b41R0b : ICode :=
  (.block 1 (.seq (.ops [⟨some 20,(.mv (.t 8)),none⟩,⟨some 21,(.bin .gtr (.t 20) (.k (I 0))),none⟩])
  (.cond (.t 21)
    (.draw 0 [] (.early 1 ⟨some 22,(.load true 2 (.t 7)),none⟩
      (.early 1 ⟨some 23,(.mv (.t 8)),none⟩
      (.early 1 ⟨some 24,(.call (.k (.fn (.func 36) [] [])) [(.t 23)]),none⟩
      (.early 1 ⟨some 25,(.un .neg (.t 24)),none⟩
      (.early 1 ⟨some 26,(.load false 1 (.t 6)),none⟩
      (.early 1 ⟨some 27,(.load false 1 (.t 6)),none⟩
      (.early 1 ⟨some 28,(.call (.k (.fn (.func 40) [] [])) [(.t 27)]),none⟩
      (.early 1 ⟨some 29,(.call (.k (.fn (.func 38) [] [])) [(.t 26),(.t 28)]),none⟩
      (.early 1 ⟨some 30,(.bin .mul (.t 25) (.t 29)),none⟩
      (.early 1 ⟨some 31,(.load false 1 (.t 6)),none⟩
      (.early 1 ⟨some 32,(.mv (.t 8)),none⟩
      (.early 1 ⟨some 33,(.call (.k (.fn (.func 38) [] [])) [(.t 31),(.t 32)]),none⟩
      (.early 1 ⟨some 34,(.call (.k (.fn (.func 39) [] [])) [(.t 30),(.t 33)]),none⟩
      (.step 0 0 ⟨some 35,(.call (.k (.fn (.func 67) [] [])) [(.t 22),(.t 34)]),none⟩
      (.step 0 0 ⟨none,(.store 2 (.t 7) (.t 35)),none⟩
      .done))))))))))))))))
    .skip)))
def c41R0b : ICode := b41R0b
theorem w41R0b : W x Q c41R0b ks fr H ms = W x Q b41R0b ks fr H ms := rfl
theorem t41R0b : trCode Try.prog 37 (bdOf Try.f41 0) = some (strip c41R0b) := by kernel_rfl
abbrev b41T0 : ICode :=
  (.seq (.ops [⟨some 36,(.load true 2 (.t 7)),none⟩,⟨none,(.store 2 (.t 4) (.t 36)),none⟩,⟨some 5,(.mv (.k (I 0))),none⟩])
  .ret)
def c41T0 : ICode := b41T0
theorem w41T0 : W x Q c41T0 ks fr H ms = W x Q b41T0 ks fr H ms := rfl
noncomputable abbrev b41 : ICode :=
  (.seq (.ops [⟨(some 4),(.alloc [(I 0),(I 0)]),none⟩,
    ⟨(some 5),(.mv (.k (I 0))),none⟩])
  (.seq (.ops [⟨(some 9),(.mv (.t 0)),none⟩,
    ⟨(some 6),(.alloc [nilSl]),none⟩,
    ⟨none,(.store 1 (.t 6) (.t 9)),none⟩])
  (.seq (.seq (.ops [⟨(some 10),(.load false 1 (.t 6)),none⟩,
    ⟨(some 11),(.mv (.t 1)),none⟩,
    ⟨(some 12),(.bslice 1 1 [(I 0)] [(0,1,(.t 11))]),none⟩,
    ⟨(some 13),(.call (.k (.fn (.func 33) [] [])) [(.t 10),(.t 12)]),none⟩,
    ⟨(some 14),(.un .not (.t 13)),none⟩])
  (.cond (.t 14)
    (.seq (.ops [⟨(some 15),(.build [(I 0),(I 0)] []),none⟩,
      ⟨none,(.store 2 (.t 4) (.t 15)),none⟩,
      ⟨(some 5),(.mv (.k (I 2))),none⟩])
    .ret)
    .skip))
  (.seq (.ops [⟨(some 16),(.call (.k (.fn (.func 66) [] [])) [(.k (I 0))]),none⟩,
    ⟨(some 7),(.alloc [(I 0),(I 0)]),none⟩,
    ⟨none,(.store 2 (.t 7) (.t 16)),none⟩])
  (.seq (.seq (.ops [⟨(some 17),(.mv (.t 1)),none⟩,
    ⟨(some 18),(.call (.k (.fn (.func 35) [] [])) [(.t 17)]),none⟩])
  (.block 0 (.range (.t 18) [19] (asOf Try.f41 0) (bdOf Try.f41 0))))
  c41T0)))))
noncomputable def c41 : ICode := b41
theorem w41 : W x Q c41 ks fr H ms = W x Q b41 ks fr H ms := rfl
def r41 : List IRes := [(.cell true 2 4),(.tmp 5)]
theorem t41 : Try.f41.body.bind (trCode Try.prog Try.f41.ntmps) = some (strip c41) := by kernel_rfl
theorem q41 : trRes Try.prog Try.f41.results.toList = some r41 := by kernel_rfl
theorem fn41 : Try.prog.funcs[41]? = some Try.f41 := by kernel_rfl
theorem nn41 : (Try.f41.name == "runtime.NumGoroutine") = false := by kernel_rfl
theorem nt41 : Try.f41.ntmps = 37 := by kernel_rfl
abbrev b61 : ICode :=
  (.seq (.ops [⟨some 2,(.mv (.k (B false))),none⟩])
  (.seq (.ops [⟨some 3,(.mv (.t 0)),none⟩,⟨some 4,(.len (.t 3)),none⟩,⟨some 5,(.bin .geq (.t 4) (.k (I 1))),none⟩,⟨some 6,(.mv (.t 5)),none⟩,⟨some 7,(.mv (.t 0)),some (6,true)⟩,⟨some 8,(.len (.t 7)),some (6,true)⟩,⟨some 9,(.bin .leq (.t 8) (.k (I 6))),some (6,true)⟩,⟨some 10,(.pick (.t 6) (.t 9) (.k (B false))),none⟩,⟨some 11,(.mv (.t 10)),none⟩,⟨some 12,(.mv (.t 0)),some (11,true)⟩,⟨some 13,(.call (.k (.fn (.func 95) [] [])) [(.t 12)]),some (11,true)⟩,⟨some 14,(.bin .geq (.t 13) (.k (I 1))),some (11,true)⟩,⟨some 15,(.pick (.t 11) (.t 14) (.k (B false))),none⟩,⟨some 16,(.mv (.t 15)),none⟩,⟨some 17,(.mv (.t 0)),some (16,true)⟩,⟨some 18,(.call (.k (.fn (.func 96) [] [])) [(.t 17)]),some (16,true)⟩,⟨some 19,(.bin .leq (.t 18) (.k (I 9))),some (16,true)⟩,⟨some 20,(.pick (.t 16) (.t 19) (.k (B false))),none⟩,⟨some 2,(.mv (.t 20)),none⟩])
  .ret))
def c61 : ICode := b61
theorem w61 : W x Q c61 ks fr H ms = W x Q b61 ks fr H ms := rfl
def r61 : List IRes := [(.tmp 2)]
theorem t61 : Try.f61.body.bind (trCode Try.prog Try.f61.ntmps) = some (strip c61) := by kernel_rfl
theorem q61 : trRes Try.prog Try.f61.results.toList = some r61 := by kernel_rfl
theorem fn61 : Try.prog.funcs[61]? = some Try.f61 := by kernel_rfl
theorem nn61 : (Try.f61.name == "runtime.NumGoroutine") = false := by kernel_rfl
theorem nt61 : Try.f61.ntmps = 21 := by kernel_rfl
abbrev b62 : ICode :=
  (.seq (.ops [⟨some 4,(.mv (.k (B false))),none⟩])
  (.seq (.ops [⟨some 5,(.mv (.t 0)),none⟩,⟨some 6,(.mv (.t 1)),none⟩,⟨some 7,(.call (.k (.fn (.func 69) [] [])) [(.t 5),(.t 6)]),none⟩,⟨some 8,(.bin .geq (.t 7) (.k (I 0))),none⟩,⟨some 4,(.mv (.t 8)),none⟩])
  .ret))
def c62 : ICode := b62
theorem w62 : W x Q c62 ks fr H ms = W x Q b62 ks fr H ms := rfl
def r62 : List IRes := [(.tmp 4)]
theorem t62 : Try.f62.body.bind (trCode Try.prog Try.f62.ntmps) = some (strip c62) := by kernel_rfl
theorem q62 : trRes Try.prog Try.f62.results.toList = some r62 := by kernel_rfl
theorem fn62 : Try.prog.funcs[62]? = some Try.f62 := by kernel_rfl
theorem nn62 : (Try.f62.name == "runtime.NumGoroutine") = false := by kernel_rfl
theorem nt62 : Try.f62.ntmps = 9 := by kernel_rfl
abbrev b63 : ICode :=
  (.seq (.ops [⟨some 3,(.mv (.k (B false))),none⟩])
  (.seq (.ops [⟨some 4,(.mv (.t 0)),none⟩,⟨some 5,(.bin .lss (.t 4) (.k (I 0))),none⟩,⟨some 6,(.mv (.t 5)),none⟩,⟨some 7,(.mv (.t 0)),some (6,false)⟩,⟨some 8,(.load false 1 (.t 1)),some (6,false)⟩,⟨some 9,(.len (.t 8)),some (6,false)⟩,⟨some 10,(.bin .shl (.k (I 1)) (.t 9)),some (6,false)⟩,⟨some 11,(.bin .geq (.t 7) (.t 10)),some (6,false)⟩,⟨some 12,(.pick (.t 6) (.k (B true)) (.t 11)),none⟩,⟨some 3,(.mv (.t 12)),none⟩])
  .ret))
def c63 : ICode := b63
theorem w63 : W x Q c63 ks fr H ms = W x Q b63 ks fr H ms := rfl
def r63 : List IRes := [(.tmp 3)]
theorem t63 : Try.f63.body.bind (trCode Try.prog Try.f63.ntmps) = some (strip c63) := by kernel_rfl
theorem q63 : trRes Try.prog Try.f63.results.toList = some r63 := by kernel_rfl
theorem fn63 : Try.prog.funcs[63]? = some Try.f63 := by kernel_rfl
theorem nn63 : (Try.f63.name == "runtime.NumGoroutine") = false := by kernel_rfl
theorem nt63 : Try.f63.ntmps = 13 := by kernel_rfl
/- live: [0,1,3] -/
abbrev b64L0 : ICode :=
  (.seq (.seq (.ops [⟨some 5,(.mv (.t 0)),none⟩,⟨some 6,(.mv (.t 3)),none⟩,⟨some 7,(.call (.t 5) [(.t 6)]),none⟩,⟨some 8,(.mv (.t 7)),none⟩,⟨some 9,(.mv (.t 3)),some (8,true)⟩,⟨some 10,(.bin .gtr (.t 9) (.k (I 0))),some (8,true)⟩,⟨some 11,(.pick (.t 8) (.t 10) (.k (B false))),none⟩])
  (.cond (.t 11)
    .skip
    (.exit 0)))
  (.seq (.block 1 .skip)
  (.ops [⟨some 12,(.mv (.t 3)),none⟩,⟨some 13,(.bin .sub (.t 12) (.k (I 1))),none⟩,⟨some 14,(.load false 1 (.t 1)),none⟩,⟨some 15,(.bin .and (.t 13) (.t 14)),none⟩,⟨some 3,(.mv (.t 15)),none⟩])))
def c64L0 : ICode := b64L0
theorem w64L0 : W x Q c64L0 ks fr H ms = W x Q b64L0 ks fr H ms := rfl
abbrev b64 : ICode :=
  (.seq (.ops [⟨some 4,(.load false 1 (.t 1)),none⟩,⟨some 3,(.mv (.t 4)),none⟩])
  (.block 0 (.loop c64L0)))
def c64 : ICode := b64
theorem w64 : W x Q c64 ks fr H ms = W x Q b64 ks fr H ms := rfl
def r64 : List IRes := []
theorem t64 : Try.f64.body.bind (trCode Try.prog Try.f64.ntmps) = some (strip c64) := by kernel_rfl
theorem q64 : trRes Try.prog Try.f64.results.toList = some r64 := by kernel_rfl
theorem fn64 : Try.prog.funcs[64]? = some Try.f64 := by kernel_rfl
theorem nn64 : (Try.f64.name == "runtime.NumGoroutine") = false := by kernel_rfl
theorem nt64 : Try.f64.ntmps = 16 := by kernel_rfl
abbrev b65T1 : ICode :=
  (.keep [0] (.seq (.ops [⟨some 11,(.mv (.t 0)),none⟩,⟨some 12,(.mv (.t 0)),none⟩,⟨some 13,(.un .neg (.t 12)),none⟩,⟨some 14,(.mx (.t 11) (.t 13)),none⟩,⟨some 4,(.mv (.t 14)),none⟩])
  .ret))
def c65T1 : ICode := b65T1
theorem w65T1 : W x Q c65T1 ks fr H ms = W x Q b65T1 ks fr H ms := rfl
/- live: [0,1] -/
abbrev b65L0 : ICode :=
  (.seq (.seq (.ops [⟨some 5,(.mv (.t 1)),none⟩,⟨some 6,(.bin .neq (.t 5) (.k (I 0))),none⟩])
  (.cond (.t 6)
    .skip
    (.exit 0)))
  (.block 1 (.draw 0 [] (.early 1 ⟨some 7,(.mv (.t 1)),none⟩
    (.early 1 ⟨some 8,(.mv (.t 0)),none⟩
    (.early 1 ⟨some 9,(.mv (.t 1)),none⟩
    (.early 1 ⟨some 10,(.bin .rem (.t 8) (.t 9)),none⟩
    (.early 1 ⟨some 0,(.mv (.t 7)),none⟩
    (.early 0 ⟨some 1,(.mv (.t 10)),none⟩
    .done)))))))))
def c65L0 : ICode := b65L0
theorem w65L0 : W x Q c65L0 ks fr H ms = W x Q b65L0 ks fr H ms := rfl
abbrev b65 : ICode :=
  (.seq (.ops [⟨some 4,(.mv (.k (I 0))),none⟩])
  (.seq (.block 0 (.loop c65L0))
  c65T1))
def c65 : ICode := b65
theorem w65 : W x Q c65 ks fr H ms = W x Q b65 ks fr H ms := rfl
def r65 : List IRes := [(.tmp 4)]
theorem t65 : Try.f65.body.bind (trCode Try.prog Try.f65.ntmps) = some (strip c65) := by kernel_rfl
theorem q65 : trRes Try.prog Try.f65.results.toList = some r65 := by kernel_rfl
theorem fn65 : Try.prog.funcs[65]? = some Try.f65 := by kernel_rfl
theorem nn65 : (Try.f65.name == "runtime.NumGoroutine") = false := by kernel_rfl
theorem nt65 : Try.f65.ntmps = 15 := by kernel_rfl
abbrev b66 : ICode :=
  (.seq (.ops [⟨some 2,(.alloc [(I 0),(I 0)]),none⟩])
  (.seq (.ops [⟨some 3,(.mv (.t 0)),none⟩,⟨some 4,(.build [(I 0),(I 0)] [(0,1,(.t 3)),(1,1,(.k (I 1)))]),none⟩,⟨none,(.store 2 (.t 2) (.t 4)),none⟩])
  .ret))
def c66 : ICode := b66
theorem w66 : W x Q c66 ks fr H ms = W x Q b66 ks fr H ms := rfl
def r66 : List IRes := [(.cell true 2 2)]
theorem t66 : Try.f66.body.bind (trCode Try.prog Try.f66.ntmps) = some (strip c66) := by kernel_rfl
theorem q66 : trRes Try.prog Try.f66.results.toList = some r66 := by kernel_rfl
theorem fn66 : Try.prog.funcs[66]? = some Try.f66 := by kernel_rfl
theorem nn66 : (Try.f66.name == "runtime.NumGoroutine") = false := by kernel_rfl
theorem nt66 : Try.f66.ntmps = 5 := by kernel_rfl
abbrev b67 : ICode :=
  (.seq (.ops [⟨some 2,(.box (.t 0)),none⟩,⟨some 3,(.box (.t 1)),none⟩,⟨some 4,(.alloc [(I 0),(I 0)]),none⟩])
  (.seq (.ops [⟨some 6,(.fldA 1 (.t 2)),none⟩,⟨some 7,(.load false 1 (.t 6)),none⟩,⟨some 8,(.fldA 1 (.t 3)),none⟩,⟨some 9,(.load false 1 (.t 8)),none⟩,⟨some 10,(.call (.k (.fn (.func 65) [] [])) [(.t 7),(.t 9)]),none⟩,⟨some 5,(.mv (.t 10)),none⟩])
  (.seq (.draw 0 [] (.early 1 ⟨some 11,(.fldA 0 (.t 2)),none⟩
    (.early 1 ⟨some 12,(.load false 1 (.t 11)),none⟩
    (.early 1 ⟨some 13,(.fldA 1 (.t 3)),none⟩
    (.early 1 ⟨some 14,(.load false 1 (.t 13)),none⟩
    (.early 1 ⟨some 15,(.mv (.t 5)),none⟩
    (.early 1 ⟨some 16,(.bin .quo (.t 14) (.t 15)),none⟩
    (.early 1 ⟨some 17,(.bin .mul (.t 12) (.t 16)),none⟩
    (.early 1 ⟨some 18,(.fldA 0 (.t 3)),none⟩
    (.early 1 ⟨some 19,(.load false 1 (.t 18)),none⟩
    (.early 1 ⟨some 20,(.fldA 1 (.t 2)),none⟩
    (.early 1 ⟨some 21,(.load false 1 (.t 20)),none⟩
    (.early 1 ⟨some 22,(.mv (.t 5)),none⟩
    (.early 1 ⟨some 23,(.bin .quo (.t 21) (.t 22)),none⟩
    (.early 1 ⟨some 24,(.bin .mul (.t 19) (.t 23)),none⟩
    (.early 1 ⟨some 25,(.bin .add (.t 17) (.t 24)),none⟩
    (.early 1 ⟨some 26,(.fldA 1 (.t 2)),none⟩
    (.early 1 ⟨some 27,(.load false 1 (.t 26)),none⟩
    (.early 1 ⟨some 28,(.mv (.t 5)),none⟩
    (.early 1 ⟨some 29,(.bin .quo (.t 27) (.t 28)),none⟩
    (.early 1 ⟨some 30,(.fldA 1 (.t 3)),none⟩
    (.early 1 ⟨some 31,(.load false 1 (.t 30)),none⟩
    (.early 1 ⟨some 32,(.bin .mul (.t 29) (.t 31)),none⟩
    (.step 0 0 ⟨some 33,(.call (.k (.fn (.func 39) [] [])) [(.t 25),(.t 32)]),none⟩
    (.step 0 0 ⟨none,(.store 2 (.t 4) (.t 33)),none⟩
    .done)))))))))))))))))))))))))
  (.keep [4] .ret))))
def c67 : ICode := b67
theorem w67 : W x Q c67 ks fr H ms = W x Q b67 ks fr H ms := rfl
def r67 : List IRes := [(.cell true 2 4)]
theorem t67 : Try.f67.body.bind (trCode Try.prog Try.f67.ntmps) = some (strip c67) := by kernel_rfl
theorem q67 : trRes Try.prog Try.f67.results.toList = some r67 := by kernel_rfl
theorem fn67 : Try.prog.funcs[67]? = some Try.f67 := by kernel_rfl
theorem nn67 : (Try.f67.name == "runtime.NumGoroutine") = false := by kernel_rfl
theorem nt67 : Try.f67.ntmps = 34 := by kernel_rfl
abbrev b95T1 : ICode :=
  (.keep [3] (.seq (.ops [⟨some 24,(.mv (.t 3)),none⟩,⟨some 2,(.mv (.t 24)),none⟩])
  .ret))
def c95T1 : ICode := b95T1
theorem w95T1 : W x Q c95T1 ks fr H ms = W x Q b95T1 ks fr H ms := rfl
/- live: [0,3,4] -/
abbrev b95L0 : ICode :=
  (.seq (.seq (.ops [⟨some 12,(.mv (.t 4)),none⟩,⟨some 13,(.mv (.t 0)),none⟩,⟨some 14,(.len (.t 13)),none⟩,⟨some 15,(.bin .lss (.t 12) (.t 14)),none⟩])
  (.cond (.t 15)
    .skip
    (.exit 0)))
  (.seq (.block 1 (.ops [⟨some 18,(.mv (.t 3)),none⟩,⟨some 19,(.mv (.t 0)),none⟩,⟨some 20,(.mv (.t 4)),none⟩,⟨some 21,(.ixS 1 (.t 19) (.t 20)),none⟩,⟨some 22,(.load false 1 (.t 21)),none⟩,⟨some 23,(.mn (.t 18) (.t 22)),none⟩,⟨some 3,(.mv (.t 23)),none⟩]))
  (.ops [⟨some 16,(.mv (.t 4)),none⟩,⟨some 17,(.bin .add (.t 16) (.k (I 1))),none⟩,⟨some 4,(.mv (.t 17)),none⟩])))
def c95L0 : ICode := b95L0
theorem w95L0 : W x Q c95L0 ks fr H ms = W x Q b95L0 ks fr H ms := rfl
abbrev b95 : ICode :=
  (.seq (.ops [⟨some 2,(.mv (.k (I 0))),none⟩])
  (.seq (.seq (.ops [⟨some 5,(.mv (.t 0)),none⟩,⟨some 6,(.len (.t 5)),none⟩,⟨some 7,(.bin .lss (.t 6) (.k (I 1))),none⟩])
  (.cond (.t 7)
    .no
    .skip))
  (.seq (.ops [⟨some 9,(.mv (.t 0)),none⟩,⟨some 10,(.ixS 1 (.t 9) (.k (I 0))),none⟩,⟨some 11,(.load false 1 (.t 10)),none⟩,⟨some 3,(.mv (.t 11)),none⟩])
  (.seq (.seq (.ops [⟨some 4,(.mv (.k (I 1))),none⟩])
  (.block 0 (.loop c95L0)))
  c95T1))))
def c95 : ICode := b95
theorem w95 : W x Q c95 ks fr H ms = W x Q b95 ks fr H ms := rfl
def r95 : List IRes := [(.tmp 2)]
theorem t95 : Try.f95.body.bind (trCode Try.prog Try.f95.ntmps) = some (strip c95) := by kernel_rfl
theorem q95 : trRes Try.prog Try.f95.results.toList = some r95 := by kernel_rfl
theorem fn95 : Try.prog.funcs[95]? = some Try.f95 := by kernel_rfl
theorem nn95 : (Try.f95.name == "runtime.NumGoroutine") = false := by kernel_rfl
theorem nt95 : Try.f95.ntmps = 25 := by kernel_rfl
abbrev b96T1 : ICode :=
  (.keep [3] (.seq (.ops [⟨some 24,(.mv (.t 3)),none⟩,⟨some 2,(.mv (.t 24)),none⟩])
  .ret))
def c96T1 : ICode := b96T1
theorem w96T1 : W x Q c96T1 ks fr H ms = W x Q b96T1 ks fr H ms := rfl
/- live: [0,3,4] -/
abbrev b96L0 : ICode :=
  (.seq (.seq (.ops [⟨some 12,(.mv (.t 4)),none⟩,⟨some 13,(.mv (.t 0)),none⟩,⟨some 14,(.len (.t 13)),none⟩,⟨some 15,(.bin .lss (.t 12) (.t 14)),none⟩])
  (.cond (.t 15)
    .skip
    (.exit 0)))
  (.seq (.block 1 (.ops [⟨some 18,(.mv (.t 3)),none⟩,⟨some 19,(.mv (.t 0)),none⟩,⟨some 20,(.mv (.t 4)),none⟩,⟨some 21,(.ixS 1 (.t 19) (.t 20)),none⟩,⟨some 22,(.load false 1 (.t 21)),none⟩,⟨some 23,(.mx (.t 18) (.t 22)),none⟩,⟨some 3,(.mv (.t 23)),none⟩]))
  (.ops [⟨some 16,(.mv (.t 4)),none⟩,⟨some 17,(.bin .add (.t 16) (.k (I 1))),none⟩,⟨some 4,(.mv (.t 17)),none⟩])))
def c96L0 : ICode := b96L0
theorem w96L0 : W x Q c96L0 ks fr H ms = W x Q b96L0 ks fr H ms := rfl
abbrev b96 : ICode :=
  (.seq (.ops [⟨some 2,(.mv (.k (I 0))),none⟩])
  (.seq (.seq (.ops [⟨some 5,(.mv (.t 0)),none⟩,⟨some 6,(.len (.t 5)),none⟩,⟨some 7,(.bin .lss (.t 6) (.k (I 1))),none⟩])
  (.cond (.t 7)
    .no
    .skip))
  (.seq (.ops [⟨some 9,(.mv (.t 0)),none⟩,⟨some 10,(.ixS 1 (.t 9) (.k (I 0))),none⟩,⟨some 11,(.load false 1 (.t 10)),none⟩,⟨some 3,(.mv (.t 11)),none⟩])
  (.seq (.seq (.ops [⟨some 4,(.mv (.k (I 1))),none⟩])
  (.block 0 (.loop c96L0)))
  c96T1))))
def c96 : ICode := b96
theorem w96 : W x Q c96 ks fr H ms = W x Q b96 ks fr H ms := rfl
def r96 : List IRes := [(.tmp 2)]
theorem t96 : Try.f96.body.bind (trCode Try.prog Try.f96.ntmps) = some (strip c96) := by kernel_rfl
theorem q96 : trRes Try.prog Try.f96.results.toList = some r96 := by kernel_rfl
theorem fn96 : Try.prog.funcs[96]? = some Try.f96 := by kernel_rfl
theorem nn96 : (Try.f96.name == "runtime.NumGoroutine") = false := by kernel_rfl
theorem nt96 : Try.f96.ntmps = 25 := by kernel_rfl
end Go.Proofs.Ytlonaefihjdkpaa
