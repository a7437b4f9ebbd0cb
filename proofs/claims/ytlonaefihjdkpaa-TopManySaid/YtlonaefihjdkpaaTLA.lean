/- The code of some functions of the program,cleaned: printed by a program of mine,checked here. -/
import Derived.Test.YtlonaefihjdkpaaProg
import Derived.Test.YtlonaefihjdkpaaAS
import Derived.Test.YtlonaefihjdkpaaTKA
import Derived.KernelRfl
namespace Go.Proofs.Ytlonaefihjdkpaa
open Go.Abs AVal
variable {x : Cx} {Q : QT} {ks : List Kont} {fr : Fr} {H : AHeap} {ms : List Nat}
abbrev b84 : ICode :=
  (.seq (.ops [⟨some 1,(.box (.t 0)),none⟩,⟨some 2,(.mv (.k (I 0))),none⟩])
  (.seq (.ops [⟨some 3,(.mv (.k (.fn (.func 112) [] []))),none⟩])
  (.seq (.seq (.ops [⟨some 5,(.fldA 0 (.t 1)),none⟩,⟨some 6,(.load false 1 (.t 5)),none⟩,⟨some 7,(.call (.k (.fn (.func 114) [] [])) [(.t 6)]),none⟩,⟨some 8,(.mv (.t 3)),none⟩,⟨some 9,(.call (.k (.fn (.func 113) [] [])) [(.t 7),(.t 8)]),none⟩,⟨some 4,(.mv (.t 9)),none⟩])
  (.block 0 (.seq (.ops [⟨some 11,(.mv (.t 4)),none⟩,⟨some 12,(.len (.t 11)),none⟩,⟨some 13,(.bin .eql (.t 12) (.k (I 0))),none⟩,⟨some 10,(.mv (.t 13)),none⟩])
  (.cond (.t 10)
    (.seq (.ops [⟨some 2,(.mv (.k (I 1))),none⟩])
    .ret)
    (.seq (.draw 0 [] (.early 0 ⟨some 15,(.mv (.t 4)),none⟩
      (.early 0 ⟨some 16,(.len (.t 15)),none⟩
      (.early 0 ⟨some 17,(.bin .eql (.t 16) (.k (I 1))),none⟩
      (.early 0 ⟨some 18,(.mv (.t 17)),none⟩
      (.early 1 ⟨some 19,(.mv (.t 4)),some (18,false)⟩
      (.early 1 ⟨some 20,(.ixS 4 (.t 19) (.k (I 0))),some (18,false)⟩
      (.early 1 ⟨some 21,(.load true 4 (.t 20)),some (18,false)⟩
      (.early 1 ⟨some 22,(.mv (.t 4)),some (18,false)⟩
      (.early 1 ⟨some 23,(.ixS 4 (.t 22) (.k (I 1))),some (18,false)⟩
      (.early 1 ⟨some 24,(.load true 4 (.t 23)),some (18,false)⟩
      (.step 0 0 ⟨some 25,(.call (.k (.fn (.func 115) [] [])) [(.t 21),(.t 24)]),some (18,false)⟩
      (.step 0 0 ⟨some 26,(.call (.k (.fn (.func 69) [] [])) [(.t 25),(.k (.fn (.func 116) [] []))]),some (18,false)⟩
      (.early 0 ⟨some 27,(.bin .lss (.t 26) (.k (I 0))),some (18,false)⟩
      (.early 0 ⟨some 28,(.pick (.t 18) (.k (B true)) (.t 27)),none⟩
      (.early 0 ⟨some 14,(.mv (.t 28)),none⟩
      .done))))))))))))))))
    (.keep [14] (.cond (.t 14)
      (.seq (.ops [⟨some 2,(.mv (.k (I 3))),none⟩])
      .ret)
      .skip)))))))
  (.seq (.ops [⟨some 2,(.mv (.k (I 16))),none⟩])
  .ret))))
def c84 : ICode := b84
theorem w84 : W x Q c84 ks fr H ms = W x Q b84 ks fr H ms := rfl
def r84 : List IRes := [(.tmp 2)]
theorem t84 : Try.f84.body.bind (trCode Try.prog Try.f84.ntmps) = some (strip c84) := by kernel_rfl
theorem q84 : trRes Try.prog Try.f84.results.toList = some r84 := by kernel_rfl
theorem fn84 : Try.prog.funcs[84]? = some Try.f84 := by kernel_rfl
theorem nn84 : (Try.f84.name == "runtime.NumGoroutine") = false := by kernel_rfl
theorem nt84 : Try.f84.ntmps = 29 := by kernel_rfl
abbrev b112 : ICode :=
  (.seq (.ops [⟨some 1,(.box (.t 0)),none⟩,⟨some 2,(.mv (.k (B false))),none⟩])
  (.seq (.ops [⟨some 3,(.load true 4 (.t 1)),none⟩,⟨some 4,(.build [(I 0),(I 0),(I 0),(I 0)] []),none⟩,⟨some 5,(.eqv false 4 (.t 3) (.t 4)),none⟩,⟨some 2,(.mv (.t 5)),none⟩])
  .ret))
def c112 : ICode := b112
theorem w112 : W x Q c112 ks fr H ms = W x Q b112 ks fr H ms := rfl
def r112 : List IRes := [(.tmp 2)]
theorem t112 : Try.f112.body.bind (trCode Try.prog Try.f112.ntmps) = some (strip c112) := by kernel_rfl
theorem q112 : trRes Try.prog Try.f112.results.toList = some r112 := by kernel_rfl
theorem fn112 : Try.prog.funcs[112]? = some Try.f112 := by kernel_rfl
theorem nn112 : (Try.f112.name == "runtime.NumGoroutine") = false := by kernel_rfl
theorem nt112 : Try.f112.ntmps = 6 := by kernel_rfl
abbrev b116 : ICode :=
  (.seq (.ops [⟨some 2,(.mv (.k (B false))),none⟩])
  (.seq (.ops [⟨some 3,(.mv (.t 0)),none⟩,⟨some 4,(.bin .neq (.t 3) (.k (I 0))),none⟩,⟨some 2,(.mv (.t 4)),none⟩])
  .ret))
def c116 : ICode := b116
theorem w116 : W x Q c116 ks fr H ms = W x Q b116 ks fr H ms := rfl
def r116 : List IRes := [(.tmp 2)]
theorem t116 : Try.f116.body.bind (trCode Try.prog Try.f116.ntmps) = some (strip c116) := by kernel_rfl
theorem q116 : trRes Try.prog Try.f116.results.toList = some r116 := by kernel_rfl
theorem fn116 : Try.prog.funcs[116]? = some Try.f116 := by kernel_rfl
theorem nn116 : (Try.f116.name == "runtime.NumGoroutine") = false := by kernel_rfl
theorem nt116 : Try.f116.ntmps = 5 := by kernel_rfl
abbrev b115T3 : ICode :=
  (.keep [5] (.seq (.ops [⟨some 35,(.mv (.t 5)),none⟩,⟨some 4,(.mv (.t 35)),none⟩])
  .ret))
def c115T3 : ICode := b115T3
theorem w115T3 : W x Q c115T3 ks fr H ms = W x Q b115T3 ks fr H ms := rfl
abbrev b115T2 : ICode :=
  (.keep [2,3,5,8] (.ops [⟨some 34,(.bin .add (.t 8) (.k (I 1))),none⟩,⟨some 8,(.mv (.t 34)),none⟩]))
def c115T2 : ICode := b115T2
theorem w115T2 : W x Q c115T2 ks fr H ms = W x Q b115T2 ks fr H ms := rfl
/- live: [2,3,5,6,8,11,12] -/
abbrev b115L1 : ICode :=
  (.seq (.ops [⟨some 13,(.bin .lss (.t 12) (.t 11)),none⟩])
  (.seq (.cond (.t 13)
    .skip
    (.exit 2))
  (.seq (.block 3 (.seq (.ops [⟨some 14,(.mv (.t 12)),none⟩,⟨some 7,(.mv (.t 14)),none⟩])
  (.draw 2 [] (.early 1 ⟨some 15,(.mv (.t 5)),none⟩
    (.early 1 ⟨some 16,(.mv (.t 7)),none⟩
    (.early 1 ⟨some 17,(.ixP 4 1 (.t 2) (.t 16)),none⟩
    (.early 1 ⟨some 18,(.load false 1 (.t 17)),none⟩
    (.early 1 ⟨some 19,(.mv (.t 6)),none⟩
    (.early 1 ⟨some 20,(.ixP 4 1 (.t 3) (.t 19)),none⟩
    (.early 1 ⟨some 21,(.load false 1 (.t 20)),none⟩
    (.early 1 ⟨some 22,(.bin .mul (.t 18) (.t 21)),none⟩
    (.early 1 ⟨some 23,(.mv (.t 6)),none⟩
    (.early 1 ⟨some 24,(.ixP 4 1 (.t 2) (.t 23)),none⟩
    (.early 1 ⟨some 25,(.load false 1 (.t 24)),none⟩
    (.early 1 ⟨some 26,(.mv (.t 7)),none⟩
    (.early 1 ⟨some 27,(.ixP 4 1 (.t 3) (.t 26)),none⟩
    (.early 1 ⟨some 28,(.load false 1 (.t 27)),none⟩
    (.early 1 ⟨some 29,(.bin .mul (.t 25) (.t 28)),none⟩
    (.early 1 ⟨some 30,(.bin .sub (.t 22) (.t 29)),none⟩
    (.step 0 1 ⟨some 31,(.bslice 1 1 [(I 0)] [(0,1,(.t 30))]),none⟩
    (.step 1 0 ⟨some 32,(.append 1 8 (.t 15) (.t 31)),none⟩
    (.early 0 ⟨some 5,(.mv (.t 32)),none⟩
    .done))))))))))))))))))))))
  (.ops [⟨some 33,(.bin .add (.t 12) (.k (I 1))),none⟩,⟨some 12,(.mv (.t 33)),none⟩]))))
def c115L1 : ICode := b115L1
theorem w115L1 : W x Q c115L1 ks fr H ms = W x Q b115L1 ks fr H ms := rfl
/- live: [2,3,5,8] -/
abbrev b115L0 : ICode :=
  (.seq (.ops [⟨some 9,(.bin .lss (.t 8) (.k (I 4))),none⟩])
  (.seq (.cond (.t 9)
    .skip
    (.exit 0))
  (.seq (.block 1 (.seq (.ops [⟨some 10,(.mv (.t 8)),none⟩,⟨some 6,(.mv (.t 10)),none⟩])
  (.seq (.ops [⟨some 11,(.mv (.t 6)),none⟩,⟨some 12,(.mv (.k (I 0))),none⟩])
  (.block 2 (.loop c115L1)))))
  c115T2)))
def c115L0 : ICode := b115L0
theorem w115L0 : W x Q c115L0 ks fr H ms = W x Q b115L0 ks fr H ms := rfl
abbrev b115 : ICode :=
  (.seq (.ops [⟨some 2,(.box (.t 0)),none⟩,⟨some 3,(.box (.t 1)),none⟩,⟨some 4,(.mv (.k nilSl)),none⟩])
  (.seq (.ops [⟨some 5,(.mv (.k nilSl)),none⟩])
  (.seq (.seq (.ops [⟨some 8,(.mv (.k (I 0))),none⟩])
  (.block 0 (.loop c115L0)))
  c115T3)))
def c115 : ICode := b115
theorem w115 : W x Q c115 ks fr H ms = W x Q b115 ks fr H ms := rfl
def r115 : List IRes := [(.tmp 4)]
theorem t115 : Try.f115.body.bind (trCode Try.prog Try.f115.ntmps) = some (strip c115) := by kernel_rfl
theorem q115 : trRes Try.prog Try.f115.results.toList = some r115 := by kernel_rfl
theorem fn115 : Try.prog.funcs[115]? = some Try.f115 := by kernel_rfl
theorem nn115 : (Try.f115.name == "runtime.NumGoroutine") = false := by kernel_rfl
theorem nt115 : Try.f115.ntmps = 36 := by kernel_rfl
abbrev b91T1 : ICode :=
  (.keep [] (.seq (.ops [⟨some 4,(.mv (.k (I (-1)))),none⟩])
  .ret))
def c91T1 : ICode := b91T1
theorem w91T1 : W x Q c91T1 ks fr H ms = W x Q b91T1 ks fr H ms := rfl
/- live: [0,1,7,8] -/
abbrev b91L0 : ICode :=
  (.seq (.ops [⟨some 9,(.bin .lss (.t 8) (.t 7)),none⟩])
  (.seq (.cond (.t 9)
    .skip
    (.exit 0))
  (.seq (.block 1 (.seq (.ops [⟨some 10,(.mv (.t 8)),none⟩,⟨some 5,(.mv (.t 10)),none⟩])
  (.seq (.ops [⟨some 11,(.mv (.t 1)),none⟩,⟨some 12,(.mv (.t 0)),none⟩,⟨some 13,(.mv (.t 5)),none⟩,⟨some 14,(.ixS 4 (.t 12) (.t 13)),none⟩,⟨some 15,(.load true 4 (.t 14)),none⟩,⟨some 16,(.call (.t 11) [(.t 15)]),none⟩])
  (.cond (.t 16)
    (.seq (.ops [⟨some 17,(.mv (.t 5)),none⟩,⟨some 4,(.mv (.t 17)),none⟩])
    .ret)
    .skip))))
  (.ops [⟨some 18,(.bin .add (.t 8) (.k (I 1))),none⟩,⟨some 8,(.mv (.t 18)),none⟩]))))
def c91L0 : ICode := b91L0
theorem w91L0 : W x Q c91L0 ks fr H ms = W x Q b91L0 ks fr H ms := rfl
abbrev b91 : ICode :=
  (.seq (.ops [⟨some 4,(.mv (.k (I 0))),none⟩])
  (.seq (.seq (.ops [⟨some 6,(.mv (.t 0)),none⟩,⟨some 7,(.len (.t 6)),none⟩,⟨some 8,(.mv (.k (I 0))),none⟩])
  (.block 0 (.loop c91L0)))
  c91T1))
def c91 : ICode := b91
theorem w91 : W x Q c91 ks fr H ms = W x Q b91 ks fr H ms := rfl
def r91 : List IRes := [(.tmp 4)]
theorem t91 : Try.f91.body.bind (trCode Try.prog Try.f91.ntmps) = some (strip c91) := by kernel_rfl
theorem q91 : trRes Try.prog Try.f91.results.toList = some r91 := by kernel_rfl
theorem fn91 : Try.prog.funcs[91]? = some Try.f91 := by kernel_rfl
theorem nn91 : (Try.f91.name == "runtime.NumGoroutine") = false := by kernel_rfl
theorem nt91 : Try.f91.ntmps = 19 := by kernel_rfl
abbrev b113T1 : ICode :=
  (.keep [0,5] (.seq (.ops [⟨some 36,(.mv (.t 0)),none⟩,⟨some 37,(.mv (.t 5)),none⟩,⟨some 38,(.slS 4 (.t 36) (some (.t 37)) none none),none⟩,⟨none,(.clr 4 [(I 0),(I 0),(I 0),(I 0)] (.t 38)),none⟩])
  (.seq (.ops [⟨some 39,(.mv (.t 0)),none⟩,⟨some 40,(.mv (.t 5)),none⟩,⟨some 41,(.slS 4 (.t 39) none (some (.t 40)) none),none⟩,⟨some 4,(.mv (.t 41)),none⟩])
  .ret)))
def c113T1 : ICode := b113T1
theorem w113T1 : W x Q c113T1 ks fr H ms = W x Q b113T1 ks fr H ms := rfl
/- live: [0,1,5,6] -/
abbrev b113L0 : ICode :=
  (.seq (.seq (.ops [⟨some 16,(.mv (.t 6)),none⟩,⟨some 17,(.mv (.t 0)),none⟩,⟨some 18,(.len (.t 17)),none⟩,⟨some 19,(.bin .lss (.t 16) (.t 18)),none⟩])
  (.cond (.t 19)
    .skip
    (.exit 0)))
  (.seq (.block 1 (.seq (.ops [⟨some 22,(.mv (.t 0)),none⟩,⟨some 23,(.mv (.t 6)),none⟩,⟨some 24,(.ixS 4 (.t 22) (.t 23)),none⟩,⟨some 25,(.load true 4 (.t 24)),none⟩,⟨some 7,(.alloc [(I 0),(I 0),(I 0),(I 0)]),none⟩,⟨none,(.store 4 (.t 7) (.t 25)),none⟩])
  (.seq (.ops [⟨some 26,(.mv (.t 1)),none⟩,⟨some 27,(.load true 4 (.t 7)),none⟩,⟨some 28,(.call (.t 26) [(.t 27)]),none⟩,⟨some 29,(.un .not (.t 28)),none⟩])
  (.cond (.t 29)
    (.seq (.ops [⟨some 30,(.mv (.t 0)),none⟩,⟨some 31,(.mv (.t 5)),none⟩,⟨some 32,(.load true 4 (.t 7)),none⟩,⟨some 33,(.ixS 4 (.t 30) (.t 31)),none⟩,⟨none,(.store 4 (.t 33) (.t 32)),none⟩])
    (.ops [⟨some 34,(.mv (.t 5)),none⟩,⟨some 35,(.bin .add (.t 34) (.k (I 1))),none⟩,⟨some 5,(.mv (.t 35)),none⟩]))
    .skip))))
  (.ops [⟨some 20,(.mv (.t 6)),none⟩,⟨some 21,(.bin .add (.t 20) (.k (I 1))),none⟩,⟨some 6,(.mv (.t 21)),none⟩])))
def c113L0 : ICode := b113L0
theorem w113L0 : W x Q c113L0 ks fr H ms = W x Q b113L0 ks fr H ms := rfl
abbrev b113 : ICode :=
  (.seq (.ops [⟨some 4,(.mv (.k nilSl)),none⟩])
  (.seq (.ops [⟨some 8,(.mv (.t 0)),none⟩,⟨some 9,(.mv (.t 1)),none⟩,⟨some 10,(.call (.k (.fn (.func 91) [] [])) [(.t 8),(.t 9)]),none⟩,⟨some 5,(.mv (.t 10)),none⟩])
  (.seq (.seq (.ops [⟨some 11,(.mv (.t 5)),none⟩,⟨some 12,(.bin .eql (.t 11) (.k (I (-1)))),none⟩])
  (.cond (.t 12)
    (.seq (.ops [⟨some 13,(.mv (.t 0)),none⟩,⟨some 4,(.mv (.t 13)),none⟩])
    .ret)
    .skip))
  (.seq (.seq (.ops [⟨some 14,(.mv (.t 5)),none⟩,⟨some 15,(.bin .add (.t 14) (.k (I 1))),none⟩,⟨some 6,(.mv (.t 15)),none⟩])
  (.block 0 (.loop c113L0)))
  c113T1))))
def c113 : ICode := b113
theorem w113 : W x Q c113 ks fr H ms = W x Q b113 ks fr H ms := rfl
def r113 : List IRes := [(.tmp 4)]
theorem t113 : Try.f113.body.bind (trCode Try.prog Try.f113.ntmps) = some (strip c113) := by kernel_rfl
theorem q113 : trRes Try.prog Try.f113.results.toList = some r113 := by kernel_rfl
theorem fn113 : Try.prog.funcs[113]? = some Try.f113 := by kernel_rfl
theorem nn113 : (Try.f113.name == "runtime.NumGoroutine") = false := by kernel_rfl
theorem nt113 : Try.f113.ntmps = 42 := by kernel_rfl
abbrev b114 : ICode :=
  (.seq (.ops [⟨some 2,(.mv (.k nilSl)),none⟩])
  (.seq (.seq (.ops [⟨some 3,(.mv (.t 0)),none⟩,⟨some 4,(.eqnil false (.t 3)),none⟩])
  (.cond (.t 4)
    (.seq (.ops [⟨some 2,(.mv (.k nilSl)),none⟩])
    .ret)
    .skip))
  (.seq (.ops [⟨some 5,(.bslice 4 0 [(I 0),(I 0),(I 0),(I 0)] []),none⟩,⟨some 6,(.mv (.t 0)),none⟩,⟨some 7,(.append 4 32 (.t 5) (.t 6)),none⟩,⟨some 2,(.mv (.t 7)),none⟩])
  .ret)))
def c114 : ICode := b114
theorem w114 : W x Q c114 ks fr H ms = W x Q b114 ks fr H ms := rfl
def r114 : List IRes := [(.tmp 2)]
theorem t114 : Try.f114.body.bind (trCode Try.prog Try.f114.ntmps) = some (strip c114) := by kernel_rfl
theorem q114 : trRes Try.prog Try.f114.results.toList = some r114 := by kernel_rfl
theorem fn114 : Try.prog.funcs[114]? = some Try.f114 := by kernel_rfl
theorem nn114 : (Try.f114.name == "runtime.NumGoroutine") = false := by kernel_rfl
theorem nt114 : Try.f114.ntmps = 8 := by kernel_rfl
abbrev b69T1 : ICode :=
  (.keep [] (.seq (.ops [⟨some 4,(.mv (.k (I (-1)))),none⟩])
  .ret))
def c69T1 : ICode := b69T1
theorem w69T1 : W x Q c69T1 ks fr H ms = W x Q b69T1 ks fr H ms := rfl
/- live: [0,1,7,8] -/
abbrev b69L0 : ICode :=
  (.seq (.ops [⟨some 9,(.bin .lss (.t 8) (.t 7)),none⟩])
  (.seq (.cond (.t 9)
    .skip
    (.exit 0))
  (.seq (.block 1 (.seq (.ops [⟨some 10,(.mv (.t 8)),none⟩,⟨some 5,(.mv (.t 10)),none⟩])
  (.seq (.ops [⟨some 11,(.mv (.t 1)),none⟩,⟨some 12,(.mv (.t 0)),none⟩,⟨some 13,(.mv (.t 5)),none⟩,⟨some 14,(.ixS 1 (.t 12) (.t 13)),none⟩,⟨some 15,(.load false 1 (.t 14)),none⟩,⟨some 16,(.call (.t 11) [(.t 15)]),none⟩])
  (.cond (.t 16)
    (.seq (.ops [⟨some 17,(.mv (.t 5)),none⟩,⟨some 4,(.mv (.t 17)),none⟩])
    .ret)
    .skip))))
  (.ops [⟨some 18,(.bin .add (.t 8) (.k (I 1))),none⟩,⟨some 8,(.mv (.t 18)),none⟩]))))
def c69L0 : ICode := b69L0
theorem w69L0 : W x Q c69L0 ks fr H ms = W x Q b69L0 ks fr H ms := rfl
abbrev b69 : ICode :=
  (.seq (.ops [⟨some 4,(.mv (.k (I 0))),none⟩])
  (.seq (.seq (.ops [⟨some 6,(.mv (.t 0)),none⟩,⟨some 7,(.len (.t 6)),none⟩,⟨some 8,(.mv (.k (I 0))),none⟩])
  (.block 0 (.loop c69L0)))
  c69T1))
def c69 : ICode := b69
theorem w69 : W x Q c69 ks fr H ms = W x Q b69 ks fr H ms := rfl
def r69 : List IRes := [(.tmp 4)]
theorem t69 : Try.f69.body.bind (trCode Try.prog Try.f69.ntmps) = some (strip c69) := by kernel_rfl
theorem q69 : trRes Try.prog Try.f69.results.toList = some r69 := by kernel_rfl
theorem fn69 : Try.prog.funcs[69]? = some Try.f69 := by kernel_rfl
theorem nn69 : (Try.f69.name == "runtime.NumGoroutine") = false := by kernel_rfl
theorem nt69 : Try.f69.ntmps = 19 := by kernel_rfl
abbrev b83 : ICode :=
  (.seq (.ops [⟨some 3,(.box (.t 0)),none⟩,⟨some 4,(.box (.t 1)),none⟩,⟨some 5,(.box (.t 2)),none⟩])
  (.seq (.ops [⟨some 6,(.alloc [(I 0),(I 0),(I 0),(I 0)]),none⟩])
  (.seq (.ops [⟨some 7,(.alloc [(.val .nilFunc)]),none⟩])
  (.seq (.ops [⟨some 8,(.mkfn (.func 109) [] [(.t 3),(.t 6),(.t 5),(.t 4),(.t 7)]),none⟩,⟨none,(.store 1 (.t 7) (.t 8)),none⟩])
  (.ops [⟨some 9,(.load false 1 (.t 7)),none⟩,⟨some 10,(.call (.t 9) [(.k (I 0))]),none⟩])))))
def c83 : ICode := b83
theorem w83 : W x Q c83 ks fr H ms = W x Q b83 ks fr H ms := rfl
def r83 : List IRes := []
theorem t83 : Try.f83.body.bind (trCode Try.prog Try.f83.ntmps) = some (strip c83) := by kernel_rfl
theorem q83 : trRes Try.prog Try.f83.results.toList = some r83 := by kernel_rfl
theorem fn83 : Try.prog.funcs[83]? = some Try.f83 := by kernel_rfl
theorem nn83 : (Try.f83.name == "runtime.NumGoroutine") = false := by kernel_rfl
theorem nt83 : Try.f83.ntmps = 11 := by kernel_rfl
abbrev b109T1 : ICode :=
  (.keep [0,2] (.ops [⟨some 46,(.mv (.t 0)),none⟩,⟨some 47,(.ixP 4 1 (.t 2) (.t 46)),none⟩,⟨none,(.store 1 (.t 47) (.k (I 0))),none⟩]))
def c109T1 : ICode := b109T1
theorem w109T1 : W x Q c109T1 ks fr H ms = W x Q b109T1 ks fr H ms := rfl
/- live: [0,1,2,4,5] -/
abbrev b109L0 : ICode :=
  (.seq (.seq (.draw 0 [] (.early 1 ⟨some 26,(.mv (.t 0)),none⟩
    (.early 1 ⟨some 27,(.ixP 4 1 (.t 2) (.t 26)),none⟩
    (.early 1 ⟨some 28,(.load false 1 (.t 27)),none⟩
    (.early 1 ⟨some 29,(.load false 1 (.t 4)),none⟩
    (.early 0 ⟨some 30,(.bin .leq (.t 28) (.t 29)),none⟩
    .done))))))
  (.keep [0,1,2,4,5,30] (.cond (.t 30)
    .skip
    (.exit 0))))
  (.seq (.block 1 (.seq (.ops [⟨some 36,(.load true 2 (.t 1)),none⟩,⟨some 37,(.load true 4 (.t 2)),none⟩,⟨some 38,(.mv (.t 0)),none⟩,⟨some 39,(.bin .add (.t 38) (.k (I 1))),none⟩,⟨some 40,(.load false 1 (.t 4)),none⟩,⟨some 41,(.call (.k (.fn (.func 111) [] [])) [(.t 36),(.t 37),(.t 39),(.t 40)]),none⟩])
  (.cond (.t 41)
    (.ops [⟨some 42,(.load false 1 (.t 5)),none⟩,⟨some 43,(.mv (.t 0)),none⟩,⟨some 44,(.bin .add (.t 43) (.k (I 1))),none⟩,⟨some 45,(.call (.t 42) [(.t 44)]),none⟩])
    .skip)))
  (.ops [⟨some 31,(.mv (.t 0)),none⟩,⟨some 32,(.ixP 4 1 (.t 2) (.t 31)),none⟩,⟨some 33,(.load false 1 (.t 32)),none⟩,⟨some 34,(.bin .add (.t 33) (.k (I 1))),none⟩,⟨some 35,(.ixP 4 1 (.t 2) (.t 31)),none⟩,⟨none,(.store 1 (.t 35) (.t 34)),none⟩])))
def c109L0 : ICode := b109L0
theorem w109L0 : W x Q c109L0 ks fr H ms = W x Q b109L0 ks fr H ms := rfl
abbrev b109 : ICode :=
  (.seq (.seq (.ops [⟨some 7,(.mv (.t 0)),none⟩,⟨some 8,(.fldA 1 (.t 1)),none⟩,⟨some 9,(.load false 1 (.t 8)),none⟩,⟨some 10,(.bin .eql (.t 7) (.t 9)),none⟩])
  (.cond (.t 10)
    (.seq (.seq (.ops [⟨some 11,(.load true 4 (.t 2)),none⟩,⟨some 12,(.build [(I 0),(I 0),(I 0),(I 0)] []),none⟩,⟨some 13,(.eqv true 4 (.t 11) (.t 12)),none⟩,⟨some 14,(.mv (.t 13)),none⟩,⟨some 15,(.load true 2 (.t 1)),some (14,true)⟩,⟨some 16,(.load true 4 (.t 2)),some (14,true)⟩,⟨some 17,(.call (.k (.fn (.func 110) [] [])) [(.t 15),(.t 16)]),some (14,true)⟩,⟨some 18,(.pick (.t 14) (.t 17) (.k (B false))),none⟩])
    (.cond (.t 18)
      (.ops [⟨some 19,(.load false 1 (.t 3)),none⟩,⟨some 20,(.load true 4 (.t 2)),none⟩,⟨some 21,(.call (.t 19) [(.t 20)]),none⟩])
      .skip))
    .ret)
    .skip))
  (.seq (.seq (.ops [⟨some 22,(.mv (.t 0)),none⟩,⟨some 23,(.load false 1 (.t 4)),none⟩,⟨some 24,(.un .neg (.t 23)),none⟩,⟨some 25,(.ixP 4 1 (.t 2) (.t 22)),none⟩,⟨none,(.store 1 (.t 25) (.t 24)),none⟩])
  (.block 0 (.loop c109L0)))
  c109T1))
def c109 : ICode := b109
theorem w109 : W x Q c109 ks fr H ms = W x Q b109 ks fr H ms := rfl
def r109 : List IRes := []
theorem t109 : Try.f109.body.bind (trCode Try.prog Try.f109.ntmps) = some (strip c109) := by kernel_rfl
theorem q109 : trRes Try.prog Try.f109.results.toList = some r109 := by kernel_rfl
theorem fn109 : Try.prog.funcs[109]? = some Try.f109 := by kernel_rfl
theorem nn109 : (Try.f109.name == "runtime.NumGoroutine") = false := by kernel_rfl
theorem nt109 : Try.f109.ntmps = 48 := by kernel_rfl
abbrev b111T4 : ICode :=
  (.keep [] (.seq (.ops [⟨some 8,(.mv (.k (B true))),none⟩])
  .ret))
def c111T4 : ICode := b111T4
theorem w111T4 : W x Q c111T4 ks fr H ms = W x Q b111T4 ks fr H ms := rfl
abbrev b111T3 : ICode :=
  (.keep [2,3,4,5,15,16,17] (.ops [⟨some 51,(.bin .add (.t 17) (.k (I 1))),none⟩,⟨some 17,(.mv (.t 51)),none⟩]))
def c111T3 : ICode := b111T3
theorem w111T3 : W x Q c111T3 ks fr H ms = W x Q b111T3 ks fr H ms := rfl
abbrev b111T2 : ICode :=
  (.keep [2,3,4,5,11,12,15,16,17] (.seq (.ops [⟨some 47,(.mv (.t 11)),none⟩,⟨some 48,(.call (.k (.fn (.func 87) [] [])) [(.t 47)]),none⟩,⟨some 49,(.mv (.t 12)),none⟩,⟨some 50,(.bin .gtr (.t 48) (.t 49)),none⟩])
  (.cond (.t 50)
    (.seq (.ops [⟨some 8,(.mv (.k (B false))),none⟩])
    .ret)
    .skip)))
def c111T2 : ICode := b111T2
theorem w111T2 : W x Q c111T2 ks fr H ms = W x Q b111T2 ks fr H ms := rfl
/- live: [2,3,4,5,10,11,12,15,16,17,22,23] -/
abbrev b111L1 : ICode :=
  (.seq (.ops [⟨some 24,(.bin .lss (.t 23) (.t 22)),none⟩])
  (.seq (.cond (.t 24)
    .skip
    (.exit 2))
  (.seq (.block 3 (.seq (.ops [⟨some 25,(.mv (.t 23)),none⟩,⟨some 13,(.mv (.t 25)),none⟩])
  (.seq (.ops [⟨some 26,(.mv (.t 13)),none⟩,⟨some 27,(.mv (.t 2)),none⟩,⟨some 28,(.bin .lss (.t 26) (.t 27)),none⟩])
  (.cond (.t 28)
    (.draw 0 [] (.early 1 ⟨some 29,(.mv (.t 11)),none⟩
      (.early 1 ⟨some 30,(.mv (.t 13)),none⟩
      (.early 1 ⟨some 31,(.ixP 4 1 (.t 10) (.t 30)),none⟩
      (.early 1 ⟨some 32,(.load false 1 (.t 31)),none⟩
      (.early 1 ⟨some 33,(.mv (.t 13)),none⟩
      (.early 1 ⟨some 34,(.ixP 4 1 (.t 5) (.t 33)),none⟩
      (.early 1 ⟨some 35,(.load false 1 (.t 34)),none⟩
      (.early 1 ⟨some 36,(.bin .mul (.t 32) (.t 35)),none⟩
      (.early 0 ⟨some 37,(.bin .add (.t 29) (.t 36)),none⟩
      (.early 0 ⟨some 11,(.mv (.t 37)),none⟩
      .done)))))))))))
    (.ops [⟨some 38,(.mv (.t 12)),none⟩,⟨some 39,(.mv (.t 13)),none⟩,⟨some 40,(.ixP 4 1 (.t 10) (.t 39)),none⟩,⟨some 41,(.load false 1 (.t 40)),none⟩,⟨some 42,(.call (.k (.fn (.func 87) [] [])) [(.t 41)]),none⟩,⟨some 43,(.mv (.t 3)),none⟩,⟨some 44,(.bin .mul (.t 42) (.t 43)),none⟩,⟨some 45,(.bin .add (.t 38) (.t 44)),none⟩,⟨some 12,(.mv (.t 45)),none⟩])))))
  (.ops [⟨some 46,(.bin .add (.t 23) (.k (I 1))),none⟩,⟨some 23,(.mv (.t 46)),none⟩]))))
def c111L1 : ICode := b111L1
theorem w111L1 : W x Q c111L1 ks fr H ms = W x Q b111L1 ks fr H ms := rfl
/- live: [2,3,4,5,15,16,17] -/
abbrev b111L0 : ICode :=
  (.seq (.ops [⟨some 18,(.bin .lss (.t 17) (.t 16)),none⟩])
  (.seq (.cond (.t 18)
    .skip
    (.exit 0))
  (.seq (.block 1 (.seq (.ops [⟨some 19,(.ixS 4 (.t 15) (.t 17)),none⟩,⟨some 20,(.load true 4 (.t 19)),none⟩,⟨some 10,(.alloc [(I 0),(I 0),(I 0),(I 0)]),none⟩,⟨none,(.store 4 (.t 10) (.t 20)),none⟩])
  (.seq (.ops [⟨some 11,(.mv (.k (I 0))),none⟩,⟨some 12,(.mv (.k (I 0))),none⟩])
  (.seq (.seq (.ops [⟨some 21,(.fldA 1 (.t 4)),none⟩,⟨some 22,(.load false 1 (.t 21)),none⟩,⟨some 23,(.mv (.k (I 0))),none⟩])
  (.block 2 (.loop c111L1)))
  c111T2))))
  c111T3)))
def c111L0 : ICode := b111L0
theorem w111L0 : W x Q c111L0 ks fr H ms = W x Q b111L0 ks fr H ms := rfl
abbrev b111 : ICode :=
  (.seq (.ops [⟨some 4,(.box (.t 0)),none⟩,⟨some 5,(.box (.t 1)),none⟩,⟨some 8,(.mv (.k (B false))),none⟩])
  (.seq (.seq (.ops [⟨some 14,(.fldA 0 (.t 4)),none⟩,⟨some 15,(.load false 1 (.t 14)),none⟩,⟨some 16,(.len (.t 15)),none⟩,⟨some 17,(.mv (.k (I 0))),none⟩])
  (.block 0 (.loop c111L0)))
  c111T4))
def c111 : ICode := b111
theorem w111 : W x Q c111 ks fr H ms = W x Q b111 ks fr H ms := rfl
def r111 : List IRes := [(.tmp 8)]
theorem t111 : Try.f111.body.bind (trCode Try.prog Try.f111.ntmps) = some (strip c111) := by kernel_rfl
theorem q111 : trRes Try.prog Try.f111.results.toList = some r111 := by kernel_rfl
theorem fn111 : Try.prog.funcs[111]? = some Try.f111 := by kernel_rfl
theorem nn111 : (Try.f111.name == "runtime.NumGoroutine") = false := by kernel_rfl
theorem nt111 : Try.f111.ntmps = 52 := by kernel_rfl
abbrev b85 : ICode :=
  (.seq (.ops [⟨some 2,(.box (.t 0)),none⟩])
  (.ops [⟨some 3,(.load false 1 (.t 1)),none⟩,⟨some 4,(.load true 4 (.t 2)),none⟩,⟨some 5,(.bslice 4 1 [(I 0),(I 0),(I 0),(I 0)] [(0,4,(.t 4))]),none⟩,⟨some 6,(.append 4 32 (.t 3) (.t 5)),none⟩,⟨none,(.store 1 (.t 1) (.t 6)),none⟩]))
def c85 : ICode := b85
theorem w85 : W x Q c85 ks fr H ms = W x Q b85 ks fr H ms := rfl
def r85 : List IRes := []
theorem t85 : Try.f85.body.bind (trCode Try.prog Try.f85.ntmps) = some (strip c85) := by kernel_rfl
theorem q85 : trRes Try.prog Try.f85.results.toList = some r85 := by kernel_rfl
theorem fn85 : Try.prog.funcs[85]? = some Try.f85 := by kernel_rfl
theorem nn85 : (Try.f85.name == "runtime.NumGoroutine") = false := by kernel_rfl
theorem nt85 : Try.f85.ntmps = 7 := by kernel_rfl
abbrev b55T4 : ICode :=
  (.keep [5] (.seq (.ops [⟨some 39,(.mv (.t 5)),none⟩,⟨some 2,(.mv (.t 39)),none⟩])
  .ret))
def c55T4 : ICode := b55T4
theorem w55T4 : W x Q c55T4 ks fr H ms = W x Q b55T4 ks fr H ms := rfl
abbrev b55T3 : ICode :=
  (.keep [5,18,19,20] (.ops [⟨some 38,(.bin .add (.t 20) (.k (I 1))),none⟩,⟨some 20,(.mv (.t 38)),none⟩]))
def c55T3 : ICode := b55T3
theorem w55T3 : W x Q c55T3 ks fr H ms = W x Q b55T3 ks fr H ms := rfl
abbrev b55T2 : ICode :=
  (.keep [5,7,18,19,20] (.ops [⟨some 34,(.mv (.t 5)),none⟩,⟨some 35,(.load true 4 (.t 7)),none⟩,⟨some 36,(.bslice 4 1 [(I 0),(I 0),(I 0),(I 0)] [(0,4,(.t 35))]),none⟩,⟨some 37,(.append 4 32 (.t 34) (.t 36)),none⟩,⟨some 5,(.mv (.t 37)),none⟩]))
def c55T2 : ICode := b55T2
theorem w55T2 : W x Q c55T2 ks fr H ms = W x Q b55T2 ks fr H ms := rfl
/- live: [5,7,18,19,20,24,25,26] -/
abbrev b55L1 : ICode :=
  (.seq (.ops [⟨some 27,(.bin .lss (.t 26) (.t 25)),none⟩])
  (.seq (.cond (.t 27)
    .skip
    (.exit 2))
  (.seq (.block 3 (.seq (.ops [⟨some 28,(.ixS 4 (.t 24) (.t 26)),none⟩,⟨some 29,(.load true 4 (.t 28)),none⟩,⟨some 9,(.alloc [(I 0),(I 0),(I 0),(I 0)]),none⟩,⟨none,(.store 4 (.t 9) (.t 29)),none⟩])
  (.seq (.ops [⟨some 30,(.load true 4 (.t 9)),none⟩,⟨some 31,(.load true 4 (.t 7)),none⟩,⟨some 32,(.call (.k (.fn (.func 90) [] [])) [(.t 30),(.t 31)]),none⟩])
  (.cond (.t 32)
    (.exit 1)
    .skip))))
  (.ops [⟨some 33,(.bin .add (.t 26) (.k (I 1))),none⟩,⟨some 26,(.mv (.t 33)),none⟩]))))
def c55L1 : ICode := b55L1
theorem w55L1 : W x Q c55L1 ks fr H ms = W x Q b55L1 ks fr H ms := rfl
/- live: [5,18,19,20] -/
abbrev b55L0 : ICode :=
  (.seq (.ops [⟨some 21,(.bin .lss (.t 20) (.t 19)),none⟩])
  (.seq (.cond (.t 21)
    .skip
    (.exit 0))
  (.seq (.block 1 (.seq (.ops [⟨some 22,(.ixS 4 (.t 18) (.t 20)),none⟩,⟨some 23,(.load true 4 (.t 22)),none⟩,⟨some 7,(.alloc [(I 0),(I 0),(I 0),(I 0)]),none⟩,⟨none,(.store 4 (.t 7) (.t 23)),none⟩])
  (.seq (.seq (.ops [⟨some 24,(.mv (.t 5)),none⟩,⟨some 25,(.len (.t 24)),none⟩,⟨some 26,(.mv (.k (I 0))),none⟩])
  (.block 2 (.loop c55L1)))
  c55T2)))
  c55T3)))
def c55L0 : ICode := b55L0
theorem w55L0 : W x Q c55L0 ks fr H ms = W x Q b55L0 ks fr H ms := rfl
abbrev b55 : ICode :=
  (.seq (.ops [⟨some 1,(.box (.t 0)),none⟩,⟨some 2,(.mv (.k nilSl)),none⟩])
  (.scope (.seq (.ops [⟨some 3,(.alloc [nilSl]),none⟩])
  (.seq (.draw 0 [] (.early 1 ⟨some 10,(.load true 2 (.t 1)),none⟩
    (.early 1 ⟨some 11,(.load true 2 (.t 1)),none⟩
    (.early 1 ⟨some 12,(.call (.k (.fn (.func 84) [] [])) [(.t 11)]),none⟩
    (.early 1 ⟨some 13,(.mkfn (.func 85) [] [(.t 3)]),none⟩
    (.step 0 0 ⟨some 14,(.call (.k (.fn (.func 83) [] [])) [(.t 10),(.t 12),(.t 13)]),none⟩
    .done))))))
  (.keep [3] (.seq (.ops [⟨some 4,(.alloc [(.val .nilFunc)]),none⟩,⟨none,(.store 1 (.t 4) (.k (.fn (.func 86) [] []))),none⟩])
  (.seq (.ops [⟨some 15,(.load false 1 (.t 3)),none⟩,⟨some 16,(.mkfn (.func 89) [] [(.t 4)]),none⟩,⟨some 17,(.call (.k (.fn (.func 88) [] [])) [(.t 15),(.t 16)]),none⟩])
  (.seq (.ops [⟨some 5,(.mv (.k nilSl)),none⟩])
  (.seq .skip
  (.seq (.seq (.ops [⟨some 18,(.load false 1 (.t 3)),none⟩,⟨some 19,(.len (.t 18)),none⟩,⟨some 20,(.mv (.k (I 0))),none⟩])
  (.block 0 (.loop c55L0)))
  c55T4))))))))))
def c55 : ICode := b55
theorem w55 : W x Q c55 ks fr H ms = W x Q b55 ks fr H ms := rfl
def r55 : List IRes := [(.tmp 2)]
theorem t55 : Try.f55.body.bind (trCode Try.prog Try.f55.ntmps) = some (strip c55) := by kernel_rfl
theorem q55 : trRes Try.prog Try.f55.results.toList = some r55 := by kernel_rfl
theorem fn55 : Try.prog.funcs[55]? = some Try.f55 := by kernel_rfl
theorem nn55 : (Try.f55.name == "runtime.NumGoroutine") = false := by kernel_rfl
theorem nt55 : Try.f55.ntmps = 40 := by kernel_rfl
abbrev b86 : ICode :=
  (.seq (.ops [⟨some 1,(.box (.t 0)),none⟩,⟨some 2,(.mv (.k (I 0))),none⟩])
  (.seq (.draw 0 [] (.early 1 ⟨some 3,(.ixP 4 1 (.t 1) (.k (I 0))),none⟩
    (.early 1 ⟨some 4,(.load false 1 (.t 3)),none⟩
    (.early 1 ⟨some 5,(.call (.k (.fn (.func 87) [] [])) [(.t 4)]),none⟩
    (.early 1 ⟨some 6,(.ixP 4 1 (.t 1) (.k (I 1))),none⟩
    (.early 1 ⟨some 7,(.load false 1 (.t 6)),none⟩
    (.early 1 ⟨some 8,(.call (.k (.fn (.func 87) [] [])) [(.t 7)]),none⟩
    (.early 1 ⟨some 9,(.bin .add (.t 5) (.t 8)),none⟩
    (.early 1 ⟨some 10,(.ixP 4 1 (.t 1) (.k (I 2))),none⟩
    (.early 1 ⟨some 11,(.load false 1 (.t 10)),none⟩
    (.early 1 ⟨some 12,(.call (.k (.fn (.func 87) [] [])) [(.t 11)]),none⟩
    (.early 1 ⟨some 13,(.bin .add (.t 9) (.t 12)),none⟩
    (.early 1 ⟨some 14,(.ixP 4 1 (.t 1) (.k (I 3))),none⟩
    (.early 1 ⟨some 15,(.load false 1 (.t 14)),none⟩
    (.early 1 ⟨some 16,(.call (.k (.fn (.func 87) [] [])) [(.t 15)]),none⟩
    (.early 0 ⟨some 17,(.bin .add (.t 13) (.t 16)),none⟩
    (.early 0 ⟨some 2,(.mv (.t 17)),none⟩
    .done)))))))))))))))))
  (.keep [2] .ret)))
def c86 : ICode := b86
theorem w86 : W x Q c86 ks fr H ms = W x Q b86 ks fr H ms := rfl
def r86 : List IRes := [(.tmp 2)]
theorem t86 : Try.f86.body.bind (trCode Try.prog Try.f86.ntmps) = some (strip c86) := by kernel_rfl
theorem q86 : trRes Try.prog Try.f86.results.toList = some r86 := by kernel_rfl
theorem fn86 : Try.prog.funcs[86]? = some Try.f86 := by kernel_rfl
theorem nn86 : (Try.f86.name == "runtime.NumGoroutine") = false := by kernel_rfl
theorem nt86 : Try.f86.ntmps = 18 := by kernel_rfl
abbrev b89 : ICode :=
  (.seq (.ops [⟨some 3,(.box (.t 0)),none⟩,⟨some 4,(.box (.t 1)),none⟩,⟨some 5,(.mv (.k (I 0))),none⟩])
  (.seq (.draw 0 [] (.early 1 ⟨some 6,(.load false 1 (.t 2)),none⟩
    (.early 1 ⟨some 7,(.load true 4 (.t 3)),none⟩
    (.early 1 ⟨some 8,(.call (.t 6) [(.t 7)]),none⟩
    (.early 1 ⟨some 9,(.load false 1 (.t 2)),none⟩
    (.early 1 ⟨some 10,(.load true 4 (.t 4)),none⟩
    (.step 0 0 ⟨some 11,(.call (.t 9) [(.t 10)]),none⟩
    (.early 0 ⟨some 12,(.bin .sub (.t 8) (.t 11)),none⟩
    (.early 0 ⟨some 5,(.mv (.t 12)),none⟩
    .done)))))))))
  (.keep [5] .ret)))
def c89 : ICode := b89
theorem w89 : W x Q c89 ks fr H ms = W x Q b89 ks fr H ms := rfl
def r89 : List IRes := [(.tmp 5)]
theorem t89 : Try.f89.body.bind (trCode Try.prog Try.f89.ntmps) = some (strip c89) := by kernel_rfl
theorem q89 : trRes Try.prog Try.f89.results.toList = some r89 := by kernel_rfl
theorem fn89 : Try.prog.funcs[89]? = some Try.f89 := by kernel_rfl
theorem nn89 : (Try.f89.name == "runtime.NumGoroutine") = false := by kernel_rfl
theorem nt89 : Try.f89.ntmps = 13 := by kernel_rfl
abbrev b110 : ICode :=
  (.seq (.ops [⟨some 2,(.box (.t 0)),none⟩,⟨some 3,(.box (.t 1)),none⟩,⟨some 4,(.mv (.k (B false))),none⟩])
  (.seq (.ops [⟨some 5,(.fldA 0 (.t 2)),none⟩,⟨some 6,(.load false 1 (.t 5)),none⟩,⟨some 7,(.mkfn (.func 129) [] [(.t 3)]),none⟩,⟨some 8,(.call (.k (.fn (.func 56) [] [])) [(.t 6),(.t 7)]),none⟩,⟨some 9,(.un .not (.t 8)),none⟩,⟨some 4,(.mv (.t 9)),none⟩])
  .ret))
def c110 : ICode := b110
theorem w110 : W x Q c110 ks fr H ms = W x Q b110 ks fr H ms := rfl
def r110 : List IRes := [(.tmp 4)]
theorem t110 : Try.f110.body.bind (trCode Try.prog Try.f110.ntmps) = some (strip c110) := by kernel_rfl
theorem q110 : trRes Try.prog Try.f110.results.toList = some r110 := by kernel_rfl
theorem fn110 : Try.prog.funcs[110]? = some Try.f110 := by kernel_rfl
theorem nn110 : (Try.f110.name == "runtime.NumGoroutine") = false := by kernel_rfl
theorem nt110 : Try.f110.ntmps = 10 := by kernel_rfl
abbrev b129 : ICode :=
  (.seq (.ops [⟨some 2,(.box (.t 0)),none⟩,⟨some 3,(.mv (.k (B false))),none⟩])
  (.seq (.ops [⟨some 4,(.load true 4 (.t 2)),none⟩,⟨some 5,(.load true 4 (.t 1)),none⟩,⟨some 6,(.call (.k (.fn (.func 130) [] [])) [(.t 4),(.t 5)]),none⟩,⟨some 7,(.bin .neq (.t 6) (.k (I 0))),none⟩,⟨some 3,(.mv (.t 7)),none⟩])
  .ret))
def c129 : ICode := b129
theorem w129 : W x Q c129 ks fr H ms = W x Q b129 ks fr H ms := rfl
def r129 : List IRes := [(.tmp 3)]
theorem t129 : Try.f129.body.bind (trCode Try.prog Try.f129.ntmps) = some (strip c129) := by kernel_rfl
theorem q129 : trRes Try.prog Try.f129.results.toList = some r129 := by kernel_rfl
theorem fn129 : Try.prog.funcs[129]? = some Try.f129 := by kernel_rfl
theorem nn129 : (Try.f129.name == "runtime.NumGoroutine") = false := by kernel_rfl
theorem nt129 : Try.f129.ntmps = 8 := by kernel_rfl
abbrev b56 : ICode :=
  (.seq (.ops [⟨some 4,(.mv (.k (B false))),none⟩])
  (.seq (.ops [⟨some 5,(.mv (.t 0)),none⟩,⟨some 6,(.mv (.t 1)),none⟩,⟨some 7,(.call (.k (.fn (.func 91) [] [])) [(.t 5),(.t 6)]),none⟩,⟨some 8,(.bin .geq (.t 7) (.k (I 0))),none⟩,⟨some 4,(.mv (.t 8)),none⟩])
  .ret))
def c56 : ICode := b56
theorem w56 : W x Q c56 ks fr H ms = W x Q b56 ks fr H ms := rfl
def r56 : List IRes := [(.tmp 4)]
theorem t56 : Try.f56.body.bind (trCode Try.prog Try.f56.ntmps) = some (strip c56) := by kernel_rfl
theorem q56 : trRes Try.prog Try.f56.results.toList = some r56 := by kernel_rfl
theorem fn56 : Try.prog.funcs[56]? = some Try.f56 := by kernel_rfl
theorem nn56 : (Try.f56.name == "runtime.NumGoroutine") = false := by kernel_rfl
theorem nt56 : Try.f56.ntmps = 9 := by kernel_rfl
abbrev b88 : ICode :=
  (.ops [⟨some 4,(.mv (.t 0)),none⟩,⟨some 5,(.mv (.t 0)),none⟩,⟨some 6,(.len (.t 5)),none⟩,⟨some 7,(.mv (.t 1)),none⟩,⟨some 8,(.call (.k (.fn (.func 117) [] [])) [(.t 4),(.t 6),(.t 7)]),none⟩])
def c88 : ICode := b88
theorem w88 : W x Q c88 ks fr H ms = W x Q b88 ks fr H ms := rfl
def r88 : List IRes := []
theorem t88 : Try.f88.body.bind (trCode Try.prog Try.f88.ntmps) = some (strip c88) := by kernel_rfl
theorem q88 : trRes Try.prog Try.f88.results.toList = some r88 := by kernel_rfl
theorem fn88 : Try.prog.funcs[88]? = some Try.f88 := by kernel_rfl
theorem nn88 : (Try.f88.name == "runtime.NumGoroutine") = false := by kernel_rfl
theorem nt88 : Try.f88.ntmps = 9 := by kernel_rfl
abbrev b117T4 : ICode :=
  (.keep [0,1,2,6,7] (.seq (.seq (.ops [⟨some 49,(.mv (.t 7)),none⟩,⟨some 50,(.mv (.t 6)),none⟩,⟨some 51,(.bin .add (.t 49) (.t 50)),none⟩,⟨some 9,(.mv (.t 51)),none⟩])
  (.seq (.ops [⟨some 52,(.mv (.t 9)),none⟩,⟨some 53,(.mv (.t 1)),none⟩,⟨some 54,(.bin .lss (.t 52) (.t 53)),none⟩])
  (.cond (.t 54)
    (.ops [⟨some 55,(.mv (.t 0)),none⟩,⟨some 56,(.mv (.t 7)),none⟩,⟨some 57,(.mv (.t 9)),none⟩,⟨some 58,(.mv (.t 1)),none⟩,⟨some 59,(.mv (.t 2)),none⟩,⟨some 60,(.call (.k (.fn (.func 132) [] [])) [(.t 55),(.t 56),(.t 57),(.t 58),(.t 59)]),none⟩])
    .skip)))
  (.ops [⟨some 61,(.mv (.t 6)),none⟩,⟨some 62,(.bin .mul (.t 61) (.k (I 2))),none⟩,⟨some 6,(.mv (.t 62)),none⟩])))
def c117T4 : ICode := b117T4
theorem w117T4 : W x Q c117T4 ks fr H ms = W x Q b117T4 ks fr H ms := rfl
/- live: [0,1,2,6,7,8] -/
abbrev b117L3 : ICode :=
  (.seq (.seq (.ops [⟨some 33,(.mv (.t 8)),none⟩,⟨some 34,(.mv (.t 1)),none⟩,⟨some 35,(.bin .leq (.t 33) (.t 34)),none⟩])
  (.cond (.t 35)
    .skip
    (.exit 4)))
  (.block 5 (.seq (.ops [⟨some 36,(.mv (.t 0)),none⟩,⟨some 37,(.mv (.t 7)),none⟩,⟨some 38,(.mv (.t 7)),none⟩,⟨some 39,(.mv (.t 6)),none⟩,⟨some 40,(.bin .add (.t 38) (.t 39)),none⟩,⟨some 41,(.mv (.t 8)),none⟩,⟨some 42,(.mv (.t 2)),none⟩,⟨some 43,(.call (.k (.fn (.func 132) [] [])) [(.t 36),(.t 37),(.t 40),(.t 41),(.t 42)]),none⟩])
  (.seq (.ops [⟨some 44,(.mv (.t 8)),none⟩,⟨some 7,(.mv (.t 44)),none⟩])
  (.ops [⟨some 45,(.mv (.t 8)),none⟩,⟨some 46,(.mv (.t 6)),none⟩,⟨some 47,(.bin .mul (.k (I 2)) (.t 46)),none⟩,⟨some 48,(.bin .add (.t 45) (.t 47)),none⟩,⟨some 8,(.mv (.t 48)),none⟩])))))
def c117L3 : ICode := b117L3
theorem w117L3 : W x Q c117L3 ks fr H ms = W x Q b117L3 ks fr H ms := rfl
/- live: [0,1,2,6] -/
abbrev b117L2 : ICode :=
  (.seq (.seq (.ops [⟨some 28,(.mv (.t 6)),none⟩,⟨some 29,(.mv (.t 1)),none⟩,⟨some 30,(.bin .lss (.t 28) (.t 29)),none⟩])
  (.cond (.t 30)
    .skip
    (.exit 2)))
  (.block 3 (.seq (.ops [⟨some 31,(.mv (.t 6)),none⟩,⟨some 32,(.bin .mul (.k (I 2)) (.t 31)),none⟩,⟨some 7,(.mv (.k (I 0))),none⟩,⟨some 8,(.mv (.t 32)),none⟩])
  (.seq (.block 4 (.loop c117L3))
  c117T4))))
def c117L2 : ICode := b117L2
theorem w117L2 : W x Q c117L2 ks fr H ms = W x Q b117L2 ks fr H ms := rfl
abbrev b117T1 : ICode :=
  (.keep [0,1,2,6,7] (.seq (.ops [⟨some 23,(.mv (.t 0)),none⟩,⟨some 24,(.mv (.t 7)),none⟩,⟨some 25,(.mv (.t 1)),none⟩,⟨some 26,(.mv (.t 2)),none⟩,⟨some 27,(.call (.k (.fn (.func 131) [] [])) [(.t 23),(.t 24),(.t 25),(.t 26)]),none⟩])
  (.block 2 (.loop c117L2))))
def c117T1 : ICode := b117T1
theorem w117T1 : W x Q c117T1 ks fr H ms = W x Q b117T1 ks fr H ms := rfl
/- live: [0,1,2,6,7,8] -/
abbrev b117L0 : ICode :=
  (.seq (.seq (.ops [⟨some 11,(.mv (.t 8)),none⟩,⟨some 12,(.mv (.t 1)),none⟩,⟨some 13,(.bin .leq (.t 11) (.t 12)),none⟩])
  (.cond (.t 13)
    .skip
    (.exit 0)))
  (.block 1 (.seq (.ops [⟨some 14,(.mv (.t 0)),none⟩,⟨some 15,(.mv (.t 7)),none⟩,⟨some 16,(.mv (.t 8)),none⟩,⟨some 17,(.mv (.t 2)),none⟩,⟨some 18,(.call (.k (.fn (.func 131) [] [])) [(.t 14),(.t 15),(.t 16),(.t 17)]),none⟩])
  (.seq (.ops [⟨some 19,(.mv (.t 8)),none⟩,⟨some 7,(.mv (.t 19)),none⟩])
  (.ops [⟨some 20,(.mv (.t 8)),none⟩,⟨some 21,(.mv (.t 6)),none⟩,⟨some 22,(.bin .add (.t 20) (.t 21)),none⟩,⟨some 8,(.mv (.t 22)),none⟩])))))
def c117L0 : ICode := b117L0
theorem w117L0 : W x Q c117L0 ks fr H ms = W x Q b117L0 ks fr H ms := rfl
abbrev b117 : ICode :=
  (.seq (.ops [⟨some 6,(.mv (.k (I 20))),none⟩])
  (.seq (.ops [⟨some 10,(.mv (.t 6)),none⟩,⟨some 7,(.mv (.k (I 0))),none⟩,⟨some 8,(.mv (.t 10)),none⟩])
  (.seq (.block 0 (.loop c117L0))
  c117T1)))
def c117 : ICode := b117
theorem w117 : W x Q c117 ks fr H ms = W x Q b117 ks fr H ms := rfl
def r117 : List IRes := []
theorem t117 : Try.f117.body.bind (trCode Try.prog Try.f117.ntmps) = some (strip c117) := by kernel_rfl
theorem q117 : trRes Try.prog Try.f117.results.toList = some r117 := by kernel_rfl
theorem fn117 : Try.prog.funcs[117]? = some Try.f117 := by kernel_rfl
theorem nn117 : (Try.f117.name == "runtime.NumGoroutine") = false := by kernel_rfl
theorem nt117 : Try.f117.ntmps = 63 := by kernel_rfl
abbrev b131T2 : ICode :=
  (.keep [0,1,2,3,8] (.ops [⟨some 15,(.mv (.t 8)),none⟩,⟨some 16,(.bin .add (.t 15) (.k (I 1))),none⟩,⟨some 8,(.mv (.t 16)),none⟩]))
def c131T2 : ICode := b131T2
theorem w131T2 : W x Q c131T2 ks fr H ms = W x Q b131T2 ks fr H ms := rfl
/- live: [0,1,2,3,8,9] -/
abbrev b131L1 : ICode :=
  (.seq (.seq (.draw 0 [] (.early 1 ⟨some 18,(.mv (.t 9)),none⟩
    (.early 1 ⟨some 19,(.mv (.t 1)),none⟩
    (.early 0 ⟨some 20,(.bin .gtr (.t 18) (.t 19)),none⟩
    (.early 0 ⟨some 21,(.mv (.t 20)),none⟩
    (.early 1 ⟨some 22,(.mv (.t 3)),some (21,true)⟩
    (.early 1 ⟨some 23,(.mv (.t 0)),some (21,true)⟩
    (.early 1 ⟨some 24,(.mv (.t 9)),some (21,true)⟩
    (.early 1 ⟨some 25,(.ixS 4 (.t 23) (.t 24)),some (21,true)⟩
    (.early 1 ⟨some 26,(.load true 4 (.t 25)),some (21,true)⟩
    (.early 1 ⟨some 27,(.mv (.t 0)),some (21,true)⟩
    (.early 1 ⟨some 28,(.mv (.t 9)),some (21,true)⟩
    (.early 1 ⟨some 29,(.bin .sub (.t 28) (.k (I 1))),some (21,true)⟩
    (.early 1 ⟨some 30,(.ixS 4 (.t 27) (.t 29)),some (21,true)⟩
    (.early 1 ⟨some 31,(.load true 4 (.t 30)),some (21,true)⟩
    (.step 0 0 ⟨some 32,(.call (.t 22) [(.t 26),(.t 31)]),some (21,true)⟩
    (.early 0 ⟨some 33,(.bin .lss (.t 32) (.k (I 0))),some (21,true)⟩
    (.early 0 ⟨some 34,(.pick (.t 21) (.t 33) (.k (B false))),none⟩
    .done))))))))))))))))))
  (.keep [0,1,2,3,8,9,34] (.cond (.t 34)
    .skip
    (.exit 2))))
  (.seq (.block 3 (.draw 0 [] (.early 1 ⟨some 37,(.mv (.t 0)),none⟩
    (.early 1 ⟨some 38,(.mv (.t 9)),none⟩
    (.early 2 ⟨some 39,(.mv (.t 0)),none⟩
    (.early 2 ⟨some 40,(.mv (.t 9)),none⟩
    (.early 2 ⟨some 41,(.bin .sub (.t 40) (.k (I 1))),none⟩
    (.early 1 ⟨some 42,(.mv (.t 0)),none⟩
    (.early 1 ⟨some 43,(.mv (.t 9)),none⟩
    (.early 1 ⟨some 44,(.bin .sub (.t 43) (.k (I 1))),none⟩
    (.early 1 ⟨some 45,(.ixS 4 (.t 42) (.t 44)),none⟩
    (.early 1 ⟨some 46,(.load true 4 (.t 45)),none⟩
    (.early 1 ⟨some 47,(.mv (.t 0)),none⟩
    (.early 1 ⟨some 48,(.mv (.t 9)),none⟩
    (.early 1 ⟨some 49,(.ixS 4 (.t 47) (.t 48)),none⟩
    (.early 1 ⟨some 50,(.load true 4 (.t 49)),none⟩
    (.early 1 ⟨some 51,(.ixS 4 (.t 37) (.t 38)),none⟩
    (.step 0 1 ⟨none,(.store 4 (.t 51) (.t 46)),none⟩
    (.early 0 ⟨some 52,(.ixS 4 (.t 39) (.t 41)),none⟩
    (.step 0 0 ⟨none,(.store 4 (.t 52) (.t 50)),none⟩
    .done))))))))))))))))))))
  (.ops [⟨some 35,(.mv (.t 9)),none⟩,⟨some 36,(.bin .sub (.t 35) (.k (I 1))),none⟩,⟨some 9,(.mv (.t 36)),none⟩])))
def c131L1 : ICode := b131L1
theorem w131L1 : W x Q c131L1 ks fr H ms = W x Q b131L1 ks fr H ms := rfl
/- live: [0,1,2,3,8] -/
abbrev b131L0 : ICode :=
  (.seq (.seq (.ops [⟨some 12,(.mv (.t 8)),none⟩,⟨some 13,(.mv (.t 2)),none⟩,⟨some 14,(.bin .lss (.t 12) (.t 13)),none⟩])
  (.cond (.t 14)
    .skip
    (.exit 0)))
  (.seq (.block 1 (.seq (.ops [⟨some 17,(.mv (.t 8)),none⟩,⟨some 9,(.mv (.t 17)),none⟩])
  (.block 2 (.loop c131L1))))
  c131T2))
def c131L0 : ICode := b131L0
theorem w131L0 : W x Q c131L0 ks fr H ms = W x Q b131L0 ks fr H ms := rfl
abbrev b131 : ICode :=
  (.seq (.ops [⟨some 10,(.mv (.t 1)),none⟩,⟨some 11,(.bin .add (.t 10) (.k (I 1))),none⟩,⟨some 8,(.mv (.t 11)),none⟩])
  (.block 0 (.loop c131L0)))
def c131 : ICode := b131
theorem w131 : W x Q c131 ks fr H ms = W x Q b131 ks fr H ms := rfl
def r131 : List IRes := []
theorem t131 : Try.f131.body.bind (trCode Try.prog Try.f131.ntmps) = some (strip c131) := by kernel_rfl
theorem q131 : trRes Try.prog Try.f131.results.toList = some r131 := by kernel_rfl
theorem fn131 : Try.prog.funcs[131]? = some Try.f131 := by kernel_rfl
theorem nn131 : (Try.f131.name == "runtime.NumGoroutine") = false := by kernel_rfl
theorem nt131 : Try.f131.ntmps = 53 := by kernel_rfl
abbrev b132T9 : ICode :=
  (.keep [0,1,2,3,4,18,19,20] (.seq (.ops [⟨some 175,(.mv (.t 19)),none⟩,⟨some 176,(.mv (.t 20)),none⟩,⟨some 177,(.bin .sub (.t 175) (.t 176)),none⟩,⟨some 24,(.mv (.t 177)),none⟩])
  (.seq (.seq (.ops [⟨some 178,(.mv (.t 20)),none⟩,⟨some 179,(.mv (.t 2)),none⟩,⟨some 180,(.bin .lss (.t 178) (.t 179)),none⟩,⟨some 181,(.mv (.t 180)),none⟩,⟨some 182,(.mv (.t 2)),some (181,true)⟩,⟨some 183,(.mv (.t 24)),some (181,true)⟩,⟨some 184,(.bin .lss (.t 182) (.t 183)),some (181,true)⟩,⟨some 185,(.pick (.t 181) (.t 184) (.k (B false))),none⟩])
  (.cond (.t 185)
    (.ops [⟨some 186,(.mv (.t 0)),none⟩,⟨some 187,(.mv (.t 20)),none⟩,⟨some 188,(.mv (.t 2)),none⟩,⟨some 189,(.mv (.t 24)),none⟩,⟨some 190,(.mv (.t 4)),none⟩,⟨some 191,(.call (.k (.fn (.func 135) [] [])) [(.t 186),(.t 187),(.t 188),(.t 189),(.t 190)]),none⟩])
    .skip))
  (.seq (.seq (.ops [⟨some 192,(.mv (.t 1)),none⟩,⟨some 193,(.mv (.t 20)),none⟩,⟨some 194,(.bin .lss (.t 192) (.t 193)),none⟩,⟨some 195,(.mv (.t 194)),none⟩,⟨some 196,(.mv (.t 20)),some (195,true)⟩,⟨some 197,(.mv (.t 18)),some (195,true)⟩,⟨some 198,(.bin .lss (.t 196) (.t 197)),some (195,true)⟩,⟨some 199,(.pick (.t 195) (.t 198) (.k (B false))),none⟩])
  (.cond (.t 199)
    (.ops [⟨some 200,(.mv (.t 0)),none⟩,⟨some 201,(.mv (.t 1)),none⟩,⟨some 202,(.mv (.t 20)),none⟩,⟨some 203,(.mv (.t 18)),none⟩,⟨some 204,(.mv (.t 4)),none⟩,⟨some 205,(.call (.k (.fn (.func 132) [] [])) [(.t 200),(.t 201),(.t 202),(.t 203),(.t 204)]),none⟩])
    .skip))
  (.seq (.ops [⟨some 206,(.mv (.t 18)),none⟩,⟨some 207,(.mv (.t 24)),none⟩,⟨some 208,(.bin .lss (.t 206) (.t 207)),none⟩,⟨some 209,(.mv (.t 208)),none⟩,⟨some 210,(.mv (.t 24)),some (209,true)⟩,⟨some 211,(.mv (.t 3)),some (209,true)⟩,⟨some 212,(.bin .lss (.t 210) (.t 211)),some (209,true)⟩,⟨some 213,(.pick (.t 209) (.t 212) (.k (B false))),none⟩])
  (.cond (.t 213)
    (.ops [⟨some 214,(.mv (.t 0)),none⟩,⟨some 215,(.mv (.t 18)),none⟩,⟨some 216,(.mv (.t 24)),none⟩,⟨some 217,(.mv (.t 3)),none⟩,⟨some 218,(.mv (.t 4)),none⟩,⟨some 219,(.call (.k (.fn (.func 132) [] [])) [(.t 214),(.t 215),(.t 216),(.t 217),(.t 218)]),none⟩])
    .skip))))))
def c132T9 : ICode := b132T9
/- live: [0,1,2,3,4,18,19,20,21,22] -/
abbrev b132L8 : ICode :=
  (.seq (.seq (.ops [⟨some 149,(.mv (.t 20)),none⟩,⟨some 150,(.mv (.t 21)),none⟩,⟨some 151,(.bin .lss (.t 149) (.t 150)),none⟩])
  (.cond (.t 151)
    .skip
    (.exit 8)))
  (.block 9 (.seq (.ops [⟨some 152,(.mv (.t 20)),none⟩,⟨some 153,(.mv (.t 21)),none⟩,⟨some 154,(.bin .add (.t 152) (.t 153)),none⟩,⟨some 155,(.conv .u64 (.t 154)),none⟩,⟨some 156,(.bin .shr (.t 155) (.k (.val (.int .u64 1)))),none⟩,⟨some 157,(.conv .i64 (.t 156)),none⟩,⟨some 23,(.mv (.t 157)),none⟩])
  (.seq (.draw 0 [] (.early 1 ⟨some 158,(.mv (.t 4)),none⟩
    (.early 1 ⟨some 159,(.mv (.t 0)),none⟩
    (.early 1 ⟨some 160,(.mv (.t 22)),none⟩
    (.early 1 ⟨some 161,(.mv (.t 23)),none⟩
    (.early 1 ⟨some 162,(.bin .sub (.t 160) (.t 161)),none⟩
    (.early 1 ⟨some 163,(.ixS 4 (.t 159) (.t 162)),none⟩
    (.early 1 ⟨some 164,(.load true 4 (.t 163)),none⟩
    (.early 1 ⟨some 165,(.mv (.t 0)),none⟩
    (.early 1 ⟨some 166,(.mv (.t 23)),none⟩
    (.early 1 ⟨some 167,(.ixS 4 (.t 165) (.t 166)),none⟩
    (.early 1 ⟨some 168,(.load true 4 (.t 167)),none⟩
    (.step 0 0 ⟨some 169,(.call (.t 158) [(.t 164),(.t 168)]),none⟩
    (.early 0 ⟨some 170,(.bin .lss (.t 169) (.k (I 0))),none⟩
    (.early 0 ⟨some 171,(.un .not (.t 170)),none⟩
    .done)))))))))))))))
  (.keep [0,1,2,3,4,18,19,20,21,22,23,171] (.cond (.t 171)
    (.ops [⟨some 172,(.mv (.t 23)),none⟩,⟨some 173,(.bin .add (.t 172) (.k (I 1))),none⟩,⟨some 20,(.mv (.t 173)),none⟩])
    (.ops [⟨some 174,(.mv (.t 23)),none⟩,⟨some 21,(.mv (.t 174)),none⟩])))))))
def c132L8 : ICode := b132L8
theorem w132L8 : W x Q c132L8 ks fr H ms = W x Q b132L8 ks fr H ms := rfl
abbrev b132T7 : ICode :=
  (.keep [0,1,2,3,4] (.seq (.ops [⟨some 129,(.mv (.t 1)),none⟩,⟨some 130,(.mv (.t 3)),none⟩,⟨some 131,(.bin .add (.t 129) (.t 130)),none⟩,⟨some 132,(.conv .u64 (.t 131)),none⟩,⟨some 133,(.bin .shr (.t 132) (.k (.val (.int .u64 1)))),none⟩,⟨some 134,(.conv .i64 (.t 133)),none⟩,⟨some 18,(.mv (.t 134)),none⟩])
  (.seq (.ops [⟨some 135,(.mv (.t 18)),none⟩,⟨some 136,(.mv (.t 2)),none⟩,⟨some 137,(.bin .add (.t 135) (.t 136)),none⟩,⟨some 19,(.mv (.t 137)),none⟩])
  (.seq (.ops [⟨some 20,(.mv (.k (I 0))),none⟩,⟨some 21,(.mv (.k (I 0))),none⟩])
  (.seq (.seq (.ops [⟨some 138,(.mv (.t 2)),none⟩,⟨some 139,(.mv (.t 18)),none⟩,⟨some 140,(.bin .gtr (.t 138) (.t 139)),none⟩])
  (.cond (.t 140)
    (.seq (.ops [⟨some 141,(.mv (.t 19)),none⟩,⟨some 142,(.mv (.t 3)),none⟩,⟨some 143,(.bin .sub (.t 141) (.t 142)),none⟩,⟨some 20,(.mv (.t 143)),none⟩])
    (.ops [⟨some 144,(.mv (.t 18)),none⟩,⟨some 21,(.mv (.t 144)),none⟩]))
    (.seq (.ops [⟨some 145,(.mv (.t 1)),none⟩,⟨some 20,(.mv (.t 145)),none⟩])
    (.ops [⟨some 146,(.mv (.t 2)),none⟩,⟨some 21,(.mv (.t 146)),none⟩]))))
  (.seq (.ops [⟨some 147,(.mv (.t 19)),none⟩,⟨some 148,(.bin .sub (.t 147) (.k (I 1))),none⟩,⟨some 22,(.mv (.t 148)),none⟩])
  (.seq (.block 8 (.loop c132L8))
  c132T9)))))))
def c132T7 : ICode := b132T7
theorem w132T7 : W x Q c132T7 ks fr H ms = W x Q b132T7 ks fr H ms := rfl
/- live: [0,14,17] -/
abbrev b132L6 : ICode :=
  (.seq (.seq (.ops [⟨some 108,(.mv (.t 17)),none⟩,⟨some 109,(.mv (.t 14)),none⟩,⟨some 110,(.bin .gtr (.t 108) (.t 109)),none⟩])
  (.cond (.t 110)
    .skip
    (.exit 6)))
  (.seq (.block 7 (.draw 0 [] (.early 1 ⟨some 113,(.mv (.t 0)),none⟩
    (.early 1 ⟨some 114,(.mv (.t 17)),none⟩
    (.early 2 ⟨some 115,(.mv (.t 0)),none⟩
    (.early 2 ⟨some 116,(.mv (.t 17)),none⟩
    (.early 2 ⟨some 117,(.bin .sub (.t 116) (.k (I 1))),none⟩
    (.early 1 ⟨some 118,(.mv (.t 0)),none⟩
    (.early 1 ⟨some 119,(.mv (.t 17)),none⟩
    (.early 1 ⟨some 120,(.bin .sub (.t 119) (.k (I 1))),none⟩
    (.early 1 ⟨some 121,(.ixS 4 (.t 118) (.t 120)),none⟩
    (.early 1 ⟨some 122,(.load true 4 (.t 121)),none⟩
    (.early 1 ⟨some 123,(.mv (.t 0)),none⟩
    (.early 1 ⟨some 124,(.mv (.t 17)),none⟩
    (.early 1 ⟨some 125,(.ixS 4 (.t 123) (.t 124)),none⟩
    (.early 1 ⟨some 126,(.load true 4 (.t 125)),none⟩
    (.early 1 ⟨some 127,(.ixS 4 (.t 113) (.t 114)),none⟩
    (.step 0 1 ⟨none,(.store 4 (.t 127) (.t 122)),none⟩
    (.early 0 ⟨some 128,(.ixS 4 (.t 115) (.t 117)),none⟩
    (.step 0 0 ⟨none,(.store 4 (.t 128) (.t 126)),none⟩
    .done))))))))))))))))))))
  (.ops [⟨some 111,(.mv (.t 17)),none⟩,⟨some 112,(.bin .sub (.t 111) (.k (I 1))),none⟩,⟨some 17,(.mv (.t 112)),none⟩])))
def c132L6 : ICode := b132L6
theorem w132L6 : W x Q c132L6 ks fr H ms = W x Q b132L6 ks fr H ms := rfl
abbrev b132T5 : ICode :=
  (.keep [0,2,14] (.seq (.seq (.ops [⟨some 107,(.mv (.t 2)),none⟩,⟨some 17,(.mv (.t 107)),none⟩])
  (.block 6 (.loop c132L6)))
  .ret))
def c132T5 : ICode := b132T5
theorem w132T5 : W x Q c132T5 ks fr H ms = W x Q b132T5 ks fr H ms := rfl
/- live: [0,2,4,14,15] -/
abbrev b132L4 : ICode :=
  (.seq (.seq (.ops [⟨some 83,(.mv (.t 14)),none⟩,⟨some 84,(.mv (.t 15)),none⟩,⟨some 85,(.bin .lss (.t 83) (.t 84)),none⟩])
  (.cond (.t 85)
    .skip
    (.exit 4)))
  (.block 5 (.seq (.ops [⟨some 86,(.mv (.t 14)),none⟩,⟨some 87,(.mv (.t 15)),none⟩,⟨some 88,(.bin .add (.t 86) (.t 87)),none⟩,⟨some 89,(.conv .u64 (.t 88)),none⟩,⟨some 90,(.bin .shr (.t 89) (.k (.val (.int .u64 1)))),none⟩,⟨some 91,(.conv .i64 (.t 90)),none⟩,⟨some 16,(.mv (.t 91)),none⟩])
  (.seq (.draw 0 [] (.early 1 ⟨some 92,(.mv (.t 4)),none⟩
    (.early 1 ⟨some 93,(.mv (.t 0)),none⟩
    (.early 1 ⟨some 94,(.mv (.t 2)),none⟩
    (.early 1 ⟨some 95,(.ixS 4 (.t 93) (.t 94)),none⟩
    (.early 1 ⟨some 96,(.load true 4 (.t 95)),none⟩
    (.early 1 ⟨some 97,(.mv (.t 0)),none⟩
    (.early 1 ⟨some 98,(.mv (.t 16)),none⟩
    (.early 1 ⟨some 99,(.ixS 4 (.t 97) (.t 98)),none⟩
    (.early 1 ⟨some 100,(.load true 4 (.t 99)),none⟩
    (.step 0 0 ⟨some 101,(.call (.t 92) [(.t 96),(.t 100)]),none⟩
    (.early 0 ⟨some 102,(.bin .lss (.t 101) (.k (I 0))),none⟩
    (.early 0 ⟨some 103,(.un .not (.t 102)),none⟩
    .done)))))))))))))
  (.keep [0,2,4,14,15,16,103] (.cond (.t 103)
    (.ops [⟨some 104,(.mv (.t 16)),none⟩,⟨some 105,(.bin .add (.t 104) (.k (I 1))),none⟩,⟨some 14,(.mv (.t 105)),none⟩])
    (.ops [⟨some 106,(.mv (.t 16)),none⟩,⟨some 15,(.mv (.t 106)),none⟩])))))))
def c132L4 : ICode := b132L4
theorem w132L4 : W x Q c132L4 ks fr H ms = W x Q b132L4 ks fr H ms := rfl
abbrev b132T3 : ICode :=
  (.keep [0,1,2,3,4] (.seq (.seq (.ops [⟨some 77,(.mv (.t 3)),none⟩,⟨some 78,(.mv (.t 2)),none⟩,⟨some 79,(.bin .sub (.t 77) (.t 78)),none⟩,⟨some 80,(.bin .eql (.t 79) (.k (I 1))),none⟩])
  (.cond (.t 80)
    (.seq (.ops [⟨some 81,(.mv (.t 1)),none⟩,⟨some 14,(.mv (.t 81)),none⟩])
    (.seq (.ops [⟨some 82,(.mv (.t 2)),none⟩,⟨some 15,(.mv (.t 82)),none⟩])
    (.seq (.block 4 (.loop c132L4))
    c132T5)))
    .skip))
  c132T7))
def c132T3 : ICode := b132T3
theorem w132T3 : W x Q c132T3 ks fr H ms = W x Q b132T3 ks fr H ms := rfl
/- live: [0,10,13] -/
abbrev b132L2 : ICode :=
  (.seq (.seq (.ops [⟨some 55,(.mv (.t 13)),none⟩,⟨some 56,(.mv (.t 10)),none⟩,⟨some 57,(.bin .sub (.t 56) (.k (I 1))),none⟩,⟨some 58,(.bin .lss (.t 55) (.t 57)),none⟩])
  (.cond (.t 58)
    .skip
    (.exit 2)))
  (.seq (.block 3 (.draw 0 [] (.early 1 ⟨some 61,(.mv (.t 0)),none⟩
    (.early 1 ⟨some 62,(.mv (.t 13)),none⟩
    (.early 2 ⟨some 63,(.mv (.t 0)),none⟩
    (.early 2 ⟨some 64,(.mv (.t 13)),none⟩
    (.early 2 ⟨some 65,(.bin .add (.t 64) (.k (I 1))),none⟩
    (.early 1 ⟨some 66,(.mv (.t 0)),none⟩
    (.early 1 ⟨some 67,(.mv (.t 13)),none⟩
    (.early 1 ⟨some 68,(.bin .add (.t 67) (.k (I 1))),none⟩
    (.early 1 ⟨some 69,(.ixS 4 (.t 66) (.t 68)),none⟩
    (.early 1 ⟨some 70,(.load true 4 (.t 69)),none⟩
    (.early 1 ⟨some 71,(.mv (.t 0)),none⟩
    (.early 1 ⟨some 72,(.mv (.t 13)),none⟩
    (.early 1 ⟨some 73,(.ixS 4 (.t 71) (.t 72)),none⟩
    (.early 1 ⟨some 74,(.load true 4 (.t 73)),none⟩
    (.early 1 ⟨some 75,(.ixS 4 (.t 61) (.t 62)),none⟩
    (.step 0 1 ⟨none,(.store 4 (.t 75) (.t 70)),none⟩
    (.early 0 ⟨some 76,(.ixS 4 (.t 63) (.t 65)),none⟩
    (.step 0 0 ⟨none,(.store 4 (.t 76) (.t 74)),none⟩
    .done))))))))))))))))))))
  (.ops [⟨some 59,(.mv (.t 13)),none⟩,⟨some 60,(.bin .add (.t 59) (.k (I 1))),none⟩,⟨some 13,(.mv (.t 60)),none⟩])))
def c132L2 : ICode := b132L2
theorem w132L2 : W x Q c132L2 ks fr H ms = W x Q b132L2 ks fr H ms := rfl
abbrev b132T1 : ICode :=
  (.keep [0,1,10] (.seq (.seq (.ops [⟨some 54,(.mv (.t 1)),none⟩,⟨some 13,(.mv (.t 54)),none⟩])
  (.block 2 (.loop c132L2)))
  .ret))
def c132T1 : ICode := b132T1
theorem w132T1 : W x Q c132T1 ks fr H ms = W x Q b132T1 ks fr H ms := rfl
/- live: [0,1,4,10,11] -/
abbrev b132L0 : ICode :=
  (.seq (.seq (.ops [⟨some 31,(.mv (.t 10)),none⟩,⟨some 32,(.mv (.t 11)),none⟩,⟨some 33,(.bin .lss (.t 31) (.t 32)),none⟩])
  (.cond (.t 33)
    .skip
    (.exit 0)))
  (.block 1 (.seq (.ops [⟨some 34,(.mv (.t 10)),none⟩,⟨some 35,(.mv (.t 11)),none⟩,⟨some 36,(.bin .add (.t 34) (.t 35)),none⟩,⟨some 37,(.conv .u64 (.t 36)),none⟩,⟨some 38,(.bin .shr (.t 37) (.k (.val (.int .u64 1)))),none⟩,⟨some 39,(.conv .i64 (.t 38)),none⟩,⟨some 12,(.mv (.t 39)),none⟩])
  (.seq (.draw 0 [] (.early 1 ⟨some 40,(.mv (.t 4)),none⟩
    (.early 1 ⟨some 41,(.mv (.t 0)),none⟩
    (.early 1 ⟨some 42,(.mv (.t 12)),none⟩
    (.early 1 ⟨some 43,(.ixS 4 (.t 41) (.t 42)),none⟩
    (.early 1 ⟨some 44,(.load true 4 (.t 43)),none⟩
    (.early 1 ⟨some 45,(.mv (.t 0)),none⟩
    (.early 1 ⟨some 46,(.mv (.t 1)),none⟩
    (.early 1 ⟨some 47,(.ixS 4 (.t 45) (.t 46)),none⟩
    (.early 1 ⟨some 48,(.load true 4 (.t 47)),none⟩
    (.step 0 0 ⟨some 49,(.call (.t 40) [(.t 44),(.t 48)]),none⟩
    (.early 0 ⟨some 50,(.bin .lss (.t 49) (.k (I 0))),none⟩
    .done))))))))))))
  (.keep [0,1,4,10,11,12,50] (.cond (.t 50)
    (.ops [⟨some 51,(.mv (.t 12)),none⟩,⟨some 52,(.bin .add (.t 51) (.k (I 1))),none⟩,⟨some 10,(.mv (.t 52)),none⟩])
    (.ops [⟨some 53,(.mv (.t 12)),none⟩,⟨some 11,(.mv (.t 53)),none⟩])))))))
def c132L0 : ICode := b132L0
theorem w132L0 : W x Q c132L0 ks fr H ms = W x Q b132L0 ks fr H ms := rfl
abbrev b132 : ICode :=
  (.seq (.seq (.ops [⟨some 25,(.mv (.t 2)),none⟩,⟨some 26,(.mv (.t 1)),none⟩,⟨some 27,(.bin .sub (.t 25) (.t 26)),none⟩,⟨some 28,(.bin .eql (.t 27) (.k (I 1))),none⟩])
  (.cond (.t 28)
    (.seq (.ops [⟨some 29,(.mv (.t 2)),none⟩,⟨some 10,(.mv (.t 29)),none⟩])
    (.seq (.ops [⟨some 30,(.mv (.t 3)),none⟩,⟨some 11,(.mv (.t 30)),none⟩])
    (.seq (.block 0 (.loop c132L0))
    c132T1)))
    .skip))
  c132T3)
def c132 : ICode := b132
theorem w132 : W x Q c132 ks fr H ms = W x Q b132 ks fr H ms := rfl
def r132 : List IRes := []
theorem t132 : Try.f132.body.bind (trCode Try.prog Try.f132.ntmps) = some (strip c132) := by kernel_rfl
theorem q132 : trRes Try.prog Try.f132.results.toList = some r132 := by kernel_rfl
theorem fn132 : Try.prog.funcs[132]? = some Try.f132 := by kernel_rfl
theorem nn132 : (Try.f132.name == "runtime.NumGoroutine") = false := by kernel_rfl
theorem nt132 : Try.f132.ntmps = 220 := by kernel_rfl
abbrev b135T1 : ICode :=
  (.keep [0,2,4,10] (.ops [⟨some 50,(.mv (.t 0)),none⟩,⟨some 51,(.mv (.t 2)),none⟩,⟨some 52,(.mv (.t 10)),none⟩,⟨some 53,(.bin .sub (.t 51) (.t 52)),none⟩,⟨some 54,(.mv (.t 2)),none⟩,⟨some 55,(.mv (.t 10)),none⟩,⟨some 56,(.mv (.t 4)),none⟩,⟨some 57,(.call (.k (.fn (.func 137) [] [])) [(.t 50),(.t 53),(.t 54),(.t 55),(.t 56)]),none⟩]))
def c135T1 : ICode := b135T1
theorem w135T1 : W x Q c135T1 ks fr H ms = W x Q b135T1 ks fr H ms := rfl
/- live: [0,2,4,10,11] -/
abbrev b135L0 : ICode :=
  (.seq (.seq (.ops [⟨some 18,(.mv (.t 10)),none⟩,⟨some 19,(.mv (.t 11)),none⟩,⟨some 20,(.bin .neq (.t 18) (.t 19)),none⟩])
  (.cond (.t 20)
    .skip
    (.exit 0)))
  (.block 1 (.seq (.ops [⟨some 21,(.mv (.t 10)),none⟩,⟨some 22,(.mv (.t 11)),none⟩,⟨some 23,(.bin .gtr (.t 21) (.t 22)),none⟩])
  (.cond (.t 23)
    (.seq (.ops [⟨some 24,(.mv (.t 0)),none⟩,⟨some 25,(.mv (.t 2)),none⟩,⟨some 26,(.mv (.t 10)),none⟩,⟨some 27,(.bin .sub (.t 25) (.t 26)),none⟩,⟨some 28,(.mv (.t 2)),none⟩,⟨some 29,(.mv (.t 11)),none⟩,⟨some 30,(.mv (.t 4)),none⟩,⟨some 31,(.call (.k (.fn (.func 137) [] [])) [(.t 24),(.t 27),(.t 28),(.t 29),(.t 30)]),none⟩])
    (.ops [⟨some 32,(.mv (.t 10)),none⟩,⟨some 33,(.mv (.t 11)),none⟩,⟨some 34,(.bin .sub (.t 32) (.t 33)),none⟩,⟨some 10,(.mv (.t 34)),none⟩]))
    (.seq (.ops [⟨some 35,(.mv (.t 0)),none⟩,⟨some 36,(.mv (.t 2)),none⟩,⟨some 37,(.mv (.t 10)),none⟩,⟨some 38,(.bin .sub (.t 36) (.t 37)),none⟩,⟨some 39,(.mv (.t 2)),none⟩,⟨some 40,(.mv (.t 11)),none⟩,⟨some 41,(.bin .add (.t 39) (.t 40)),none⟩,⟨some 42,(.mv (.t 10)),none⟩,⟨some 43,(.bin .sub (.t 41) (.t 42)),none⟩,⟨some 44,(.mv (.t 10)),none⟩,⟨some 45,(.mv (.t 4)),none⟩,⟨some 46,(.call (.k (.fn (.func 137) [] [])) [(.t 35),(.t 38),(.t 43),(.t 44),(.t 45)]),none⟩])
    (.ops [⟨some 47,(.mv (.t 11)),none⟩,⟨some 48,(.mv (.t 10)),none⟩,⟨some 49,(.bin .sub (.t 47) (.t 48)),none⟩,⟨some 11,(.mv (.t 49)),none⟩]))))))
def c135L0 : ICode := b135L0
theorem w135L0 : W x Q c135L0 ks fr H ms = W x Q b135L0 ks fr H ms := rfl
abbrev b135 : ICode :=
  (.seq (.ops [⟨some 12,(.mv (.t 2)),none⟩,⟨some 13,(.mv (.t 1)),none⟩,⟨some 14,(.bin .sub (.t 12) (.t 13)),none⟩,⟨some 10,(.mv (.t 14)),none⟩])
  (.seq (.ops [⟨some 15,(.mv (.t 3)),none⟩,⟨some 16,(.mv (.t 2)),none⟩,⟨some 17,(.bin .sub (.t 15) (.t 16)),none⟩,⟨some 11,(.mv (.t 17)),none⟩])
  (.seq (.block 0 (.loop c135L0))
  c135T1)))
def c135 : ICode := b135
theorem w135 : W x Q c135 ks fr H ms = W x Q b135 ks fr H ms := rfl
def r135 : List IRes := []
theorem t135 : Try.f135.body.bind (trCode Try.prog Try.f135.ntmps) = some (strip c135) := by kernel_rfl
theorem q135 : trRes Try.prog Try.f135.results.toList = some r135 := by kernel_rfl
theorem fn135 : Try.prog.funcs[135]? = some Try.f135 := by kernel_rfl
theorem nn135 : (Try.f135.name == "runtime.NumGoroutine") = false := by kernel_rfl
theorem nt135 : Try.f135.ntmps = 58 := by kernel_rfl
/- live: [0,1,2,3,10] -/
abbrev b137L0 : ICode :=
  (.seq (.seq (.ops [⟨some 11,(.mv (.t 10)),none⟩,⟨some 12,(.mv (.t 3)),none⟩,⟨some 13,(.bin .lss (.t 11) (.t 12)),none⟩])
  (.cond (.t 13)
    .skip
    (.exit 0)))
  (.seq (.block 1 (.draw 0 [] (.early 1 ⟨some 16,(.mv (.t 0)),none⟩
    (.early 1 ⟨some 17,(.mv (.t 1)),none⟩
    (.early 1 ⟨some 18,(.mv (.t 10)),none⟩
    (.early 1 ⟨some 19,(.bin .add (.t 17) (.t 18)),none⟩
    (.early 2 ⟨some 20,(.mv (.t 0)),none⟩
    (.early 2 ⟨some 21,(.mv (.t 2)),none⟩
    (.early 2 ⟨some 22,(.mv (.t 10)),none⟩
    (.early 2 ⟨some 23,(.bin .add (.t 21) (.t 22)),none⟩
    (.early 1 ⟨some 24,(.mv (.t 0)),none⟩
    (.early 1 ⟨some 25,(.mv (.t 2)),none⟩
    (.early 1 ⟨some 26,(.mv (.t 10)),none⟩
    (.early 1 ⟨some 27,(.bin .add (.t 25) (.t 26)),none⟩
    (.early 1 ⟨some 28,(.ixS 4 (.t 24) (.t 27)),none⟩
    (.early 1 ⟨some 29,(.load true 4 (.t 28)),none⟩
    (.early 1 ⟨some 30,(.mv (.t 0)),none⟩
    (.early 1 ⟨some 31,(.mv (.t 1)),none⟩
    (.early 1 ⟨some 32,(.mv (.t 10)),none⟩
    (.early 1 ⟨some 33,(.bin .add (.t 31) (.t 32)),none⟩
    (.early 1 ⟨some 34,(.ixS 4 (.t 30) (.t 33)),none⟩
    (.early 1 ⟨some 35,(.load true 4 (.t 34)),none⟩
    (.early 1 ⟨some 36,(.ixS 4 (.t 16) (.t 19)),none⟩
    (.step 0 1 ⟨none,(.store 4 (.t 36) (.t 29)),none⟩
    (.early 0 ⟨some 37,(.ixS 4 (.t 20) (.t 23)),none⟩
    (.step 0 0 ⟨none,(.store 4 (.t 37) (.t 35)),none⟩
    .done))))))))))))))))))))))))))
  (.ops [⟨some 14,(.mv (.t 10)),none⟩,⟨some 15,(.bin .add (.t 14) (.k (I 1))),none⟩,⟨some 10,(.mv (.t 15)),none⟩])))
def c137L0 : ICode := b137L0
theorem w137L0 : W x Q c137L0 ks fr H ms = W x Q b137L0 ks fr H ms := rfl
abbrev b137 : ICode :=
  (.seq (.ops [⟨some 10,(.mv (.k (I 0))),none⟩])
  (.block 0 (.loop c137L0)))
def c137 : ICode := b137
theorem w137 : W x Q c137 ks fr H ms = W x Q b137 ks fr H ms := rfl
def r137 : List IRes := []
theorem t137 : Try.f137.body.bind (trCode Try.prog Try.f137.ntmps) = some (strip c137) := by kernel_rfl
theorem q137 : trRes Try.prog Try.f137.results.toList = some r137 := by kernel_rfl
theorem fn137 : Try.prog.funcs[137]? = some Try.f137 := by kernel_rfl
theorem nn137 : (Try.f137.name == "runtime.NumGoroutine") = false := by kernel_rfl
theorem nt137 : Try.f137.ntmps = 38 := by kernel_rfl
abbrev b94 : ICode :=
  (.seq (.ops [⟨some 2,(.box (.t 0)),none⟩,⟨some 3,(.box (.t 1)),none⟩,⟨some 4,(.mv (.k nilSl)),none⟩])
  (.seq (.ops [⟨some 5,(.fldA 1 (.t 2)),none⟩,⟨some 6,(.load false 1 (.t 5)),none⟩,⟨some 7,(.slP 4 1 (.t 3) none (some (.t 6))),none⟩,⟨some 8,(.call (.k (.fn (.func 6) [] [])) [(.t 7)]),none⟩,⟨some 4,(.mv (.t 8)),none⟩])
  .ret))
def c94 : ICode := b94
theorem w94 : W x Q c94 ks fr H ms = W x Q b94 ks fr H ms := rfl
def r94 : List IRes := [(.tmp 4)]
theorem t94 : Try.f94.body.bind (trCode Try.prog Try.f94.ntmps) = some (strip c94) := by kernel_rfl
theorem q94 : trRes Try.prog Try.f94.results.toList = some r94 := by kernel_rfl
theorem fn94 : Try.prog.funcs[94]? = some Try.f94 := by kernel_rfl
theorem nn94 : (Try.f94.name == "runtime.NumGoroutine") = false := by kernel_rfl
theorem nt94 : Try.f94.ntmps = 9 := by kernel_rfl
abbrev b60T1 : ICode :=
  (.keep [5] (.seq (.ops [⟨some 21,(.mv (.t 5)),none⟩,⟨some 22,(.call (.k (.fn (.func 51) [] [])) [(.t 21),(.k (.fn (.func 52) [] []))]),none⟩])
  (.seq (.ops [⟨some 23,(.mv (.t 5)),none⟩,⟨some 4,(.mv (.t 23)),none⟩])
  .ret)))
def c60T1 : ICode := b60T1
theorem w60T1 : W x Q c60T1 ks fr H ms = W x Q b60T1 ks fr H ms := rfl
/- live: [2,5,8,9,10] -/
abbrev b60L0 : ICode :=
  (.seq (.ops [⟨some 11,(.bin .lss (.t 10) (.t 9)),none⟩])
  (.seq (.cond (.t 11)
    .skip
    (.exit 0))
  (.seq (.block 1 (.seq (.ops [⟨some 12,(.ixS 4 (.t 8) (.t 10)),none⟩,⟨some 13,(.load true 4 (.t 12)),none⟩,⟨some 7,(.alloc [(I 0),(I 0),(I 0),(I 0)]),none⟩,⟨none,(.store 4 (.t 7) (.t 13)),none⟩])
  (.ops [⟨some 14,(.mv (.t 5)),none⟩,⟨some 15,(.load true 2 (.t 2)),none⟩,⟨some 16,(.load true 4 (.t 7)),none⟩,⟨some 17,(.call (.k (.fn (.func 94) [] [])) [(.t 15),(.t 16)]),none⟩,⟨some 18,(.bslice 1 1 [nilSl] [(0,1,(.t 17))]),none⟩,⟨some 19,(.append 1 24 (.t 14) (.t 18)),none⟩,⟨some 5,(.mv (.t 19)),none⟩])))
  (.ops [⟨some 20,(.bin .add (.t 10) (.k (I 1))),none⟩,⟨some 10,(.mv (.t 20)),none⟩]))))
def c60L0 : ICode := b60L0
theorem w60L0 : W x Q c60L0 ks fr H ms = W x Q b60L0 ks fr H ms := rfl
abbrev b60 : ICode :=
  (.seq (.ops [⟨some 2,(.box (.t 0)),none⟩,⟨some 4,(.mv (.k nilSl)),none⟩])
  (.seq (.ops [⟨some 5,(.mv (.k nilSl)),none⟩])
  (.seq (.seq (.ops [⟨some 8,(.mv (.t 1)),none⟩,⟨some 9,(.len (.t 8)),none⟩,⟨some 10,(.mv (.k (I 0))),none⟩])
  (.block 0 (.loop c60L0)))
  c60T1)))
def c60 : ICode := b60
theorem w60 : W x Q c60 ks fr H ms = W x Q b60 ks fr H ms := rfl
def r60 : List IRes := [(.tmp 4)]
theorem t60 : Try.f60.body.bind (trCode Try.prog Try.f60.ntmps) = some (strip c60) := by kernel_rfl
theorem q60 : trRes Try.prog Try.f60.results.toList = some r60 := by kernel_rfl
theorem fn60 : Try.prog.funcs[60]? = some Try.f60 := by kernel_rfl
theorem nn60 : (Try.f60.name == "runtime.NumGoroutine") = false := by kernel_rfl
theorem nt60 : Try.f60.ntmps = 24 := by kernel_rfl
abbrev b52T1 : ICode :=
  (.keep [0,1] (.seq (.seq (.ops [⟨some 31,(.mv (.t 0)),none⟩,⟨some 32,(.len (.t 31)),none⟩,⟨some 33,(.mv (.t 1)),none⟩,⟨some 34,(.len (.t 33)),none⟩,⟨some 35,(.bin .lss (.t 32) (.t 34)),none⟩])
  (.cond (.t 35)
    (.seq (.ops [⟨some 4,(.mv (.k (I (-1)))),none⟩])
    .ret)
    .skip))
  (.seq (.ops [⟨some 4,(.mv (.k (I 0))),none⟩])
  .ret)))
def c52T1 : ICode := b52T1
theorem w52T1 : W x Q c52T1 ks fr H ms = W x Q b52T1 ks fr H ms := rfl
/- live: [0,1,9,10,11] -/
abbrev b52L0 : ICode :=
  (.seq (.ops [⟨some 12,(.bin .lss (.t 11) (.t 10)),none⟩])
  (.seq (.cond (.t 12)
    .skip
    (.exit 0))
  (.seq (.block 1 (.seq (.ops [⟨some 13,(.mv (.t 11)),none⟩,⟨some 14,(.ixS 1 (.t 9) (.t 11)),none⟩,⟨some 15,(.load false 1 (.t 14)),none⟩,⟨some 5,(.mv (.t 13)),none⟩,⟨some 6,(.mv (.t 15)),none⟩])
  (.seq (.seq (.ops [⟨some 16,(.mv (.t 5)),none⟩,⟨some 17,(.mv (.t 1)),none⟩,⟨some 18,(.len (.t 17)),none⟩,⟨some 19,(.bin .geq (.t 16) (.t 18)),none⟩])
  (.cond (.t 19)
    (.seq (.ops [⟨some 4,(.mv (.k (I 1))),none⟩])
    .ret)
    .skip))
  (.seq (.ops [⟨some 20,(.mv (.t 1)),none⟩,⟨some 21,(.mv (.t 5)),none⟩,⟨some 22,(.ixS 1 (.t 20) (.t 21)),none⟩,⟨some 23,(.load false 1 (.t 22)),none⟩,⟨some 7,(.mv (.t 23)),none⟩])
  (.seq (.ops [⟨some 24,(.mv (.t 6)),none⟩,⟨some 25,(.mv (.t 7)),none⟩,⟨some 26,(.call (.k (.fn (.func 81) [] [])) [(.t 24),(.t 25)]),none⟩,⟨some 8,(.mv (.t 26)),none⟩])
  (.seq (.ops [⟨some 27,(.mv (.t 8)),none⟩,⟨some 28,(.bin .neq (.t 27) (.k (I 0))),none⟩])
  (.cond (.t 28)
    (.seq (.ops [⟨some 29,(.mv (.t 8)),none⟩,⟨some 4,(.mv (.t 29)),none⟩])
    .ret)
    .skip)))))))
  (.ops [⟨some 30,(.bin .add (.t 11) (.k (I 1))),none⟩,⟨some 11,(.mv (.t 30)),none⟩]))))
def c52L0 : ICode := b52L0
theorem w52L0 : W x Q c52L0 ks fr H ms = W x Q b52L0 ks fr H ms := rfl
abbrev b52 : ICode :=
  (.seq (.ops [⟨some 4,(.mv (.k (I 0))),none⟩])
  (.seq (.seq (.ops [⟨some 9,(.mv (.t 0)),none⟩,⟨some 10,(.len (.t 9)),none⟩,⟨some 11,(.mv (.k (I 0))),none⟩])
  (.block 0 (.loop c52L0)))
  c52T1))
def c52 : ICode := b52
theorem w52 : W x Q c52 ks fr H ms = W x Q b52 ks fr H ms := rfl
def r52 : List IRes := [(.tmp 4)]
theorem t52 : Try.f52.body.bind (trCode Try.prog Try.f52.ntmps) = some (strip c52) := by kernel_rfl
theorem q52 : trRes Try.prog Try.f52.results.toList = some r52 := by kernel_rfl
theorem fn52 : Try.prog.funcs[52]? = some Try.f52 := by kernel_rfl
theorem nn52 : (Try.f52.name == "runtime.NumGoroutine") = false := by kernel_rfl
theorem nt52 : Try.f52.ntmps = 36 := by kernel_rfl
abbrev b81 : ICode :=
  (.seq (.ops [⟨some 4,(.mv (.k (I 0))),none⟩])
  (.seq (.ops [⟨some 7,(.mv (.t 0)),none⟩,⟨some 8,(.call (.k (.fn (.func 108) [] [])) [(.t 7)]),none⟩,⟨some 5,(.mv (.t 8)),none⟩])
  (.seq (.ops [⟨some 9,(.mv (.t 1)),none⟩,⟨some 10,(.call (.k (.fn (.func 108) [] [])) [(.t 9)]),none⟩,⟨some 6,(.mv (.t 10)),none⟩])
  (.seq (.seq (.ops [⟨some 11,(.mv (.t 5)),none⟩])
  (.cond (.t 11)
    (.seq (.seq (.ops [⟨some 12,(.mv (.t 6)),none⟩])
    (.cond (.t 12)
      (.seq (.ops [⟨some 4,(.mv (.k (I 0))),none⟩])
      .ret)
      .skip))
    (.seq (.ops [⟨some 4,(.mv (.k (I (-1)))),none⟩])
    .ret))
    .skip))
  (.seq (.seq (.ops [⟨some 13,(.mv (.t 6)),none⟩])
  (.cond (.t 13)
    (.seq (.ops [⟨some 4,(.mv (.k (I 1))),none⟩])
    .ret)
    .skip))
  (.seq (.seq (.ops [⟨some 14,(.mv (.t 0)),none⟩,⟨some 15,(.mv (.t 1)),none⟩,⟨some 16,(.bin .lss (.t 14) (.t 15)),none⟩])
  (.cond (.t 16)
    (.seq (.ops [⟨some 4,(.mv (.k (I (-1)))),none⟩])
    .ret)
    .skip))
  (.seq (.seq (.ops [⟨some 17,(.mv (.t 0)),none⟩,⟨some 18,(.mv (.t 1)),none⟩,⟨some 19,(.bin .gtr (.t 17) (.t 18)),none⟩])
  (.cond (.t 19)
    (.seq (.ops [⟨some 4,(.mv (.k (I 1))),none⟩])
    .ret)
    .skip))
  (.seq (.ops [⟨some 4,(.mv (.k (I 0))),none⟩])
  .ret))))))))
def c81 : ICode := b81
theorem w81 : W x Q c81 ks fr H ms = W x Q b81 ks fr H ms := rfl
def r81 : List IRes := [(.tmp 4)]
theorem t81 : Try.f81.body.bind (trCode Try.prog Try.f81.ntmps) = some (strip c81) := by kernel_rfl
theorem q81 : trRes Try.prog Try.f81.results.toList = some r81 := by kernel_rfl
theorem fn81 : Try.prog.funcs[81]? = some Try.f81 := by kernel_rfl
theorem nn81 : (Try.f81.name == "runtime.NumGoroutine") = false := by kernel_rfl
theorem nt81 : Try.f81.ntmps = 20 := by kernel_rfl
abbrev b108 : ICode :=
  (.seq (.ops [⟨some 2,(.mv (.k (B false))),none⟩])
  (.seq (.ops [⟨some 3,(.mv (.t 0)),none⟩,⟨some 4,(.mv (.t 0)),none⟩,⟨some 5,(.bin .neq (.t 3) (.t 4)),none⟩,⟨some 2,(.mv (.t 5)),none⟩])
  .ret))
def c108 : ICode := b108
theorem w108 : W x Q c108 ks fr H ms = W x Q b108 ks fr H ms := rfl
def r108 : List IRes := [(.tmp 2)]
theorem t108 : Try.f108.body.bind (trCode Try.prog Try.f108.ntmps) = some (strip c108) := by kernel_rfl
theorem q108 : trRes Try.prog Try.f108.results.toList = some r108 := by kernel_rfl
theorem fn108 : Try.prog.funcs[108]? = some Try.f108 := by kernel_rfl
theorem nn108 : (Try.f108.name == "runtime.NumGoroutine") = false := by kernel_rfl
theorem nt108 : Try.f108.ntmps = 6 := by kernel_rfl
abbrev b57 : ICode :=
  (.seq (.ops [⟨some 1,(.box (.t 0)),none⟩,⟨some 2,(.mv (.k (B false))),none⟩])
  (.seq (.ops [⟨some 3,(.slP 4 1 (.t 1) none none),none⟩,⟨some 4,(.call (.k (.fn (.func 77) [] [])) [(.t 3)]),none⟩,⟨some 5,(.bin .geq (.t 4) (.k (I 0))),none⟩,⟨some 2,(.mv (.t 5)),none⟩])
  .ret))
def c57 : ICode := b57
theorem w57 : W x Q c57 ks fr H ms = W x Q b57 ks fr H ms := rfl
def r57 : List IRes := [(.tmp 2)]
theorem t57 : Try.f57.body.bind (trCode Try.prog Try.f57.ntmps) = some (strip c57) := by kernel_rfl
theorem q57 : trRes Try.prog Try.f57.results.toList = some r57 := by kernel_rfl
theorem fn57 : Try.prog.funcs[57]? = some Try.f57 := by kernel_rfl
theorem nn57 : (Try.f57.name == "runtime.NumGoroutine") = false := by kernel_rfl
theorem nt57 : Try.f57.ntmps = 6 := by kernel_rfl
end Go.Proofs.Ytlonaefihjdkpaa
