/- The code of some functions of the program,cleaned: printed by a program of mine,checked here. -/
import Derived.Test.YtlonaefihjdkpaaProg
import Derived.Test.YtlonaefihjdkpaaAS
import Derived.Test.YtlonaefihjdkpaaTKA
import Derived.KernelRfl
namespace Go.Proofs.Ytlonaefihjdkpaa
open Go.Abs AVal
variable {x : Cx} {Q : QT} {ks : List Kont} {fr : Fr} {H : AHeap} {ms : List Nat}
abbrev b15 : ICode :=
  (.seq (.ops [⟨some 4,(.mv (.k nilSl)),none⟩,⟨some 5,(.mv (.k (I 0))),none⟩])
  (.seq (.ops [⟨some 9,(.mv (.t 0)),none⟩,⟨some 10,(.mv (.t 1)),none⟩,⟨some 11,(.call (.k (.fn (.func 31) [] [])) [(.t 9),(.t 10),(.k (I 6))]),none⟩,⟨some 8,(.mv (.t 11)),none⟩,⟨some 12,(.ext (.t 8) 0),none⟩,⟨some 13,(.ext (.t 8) 1),none⟩,⟨some 6,(.alloc [nilSl,(I 0),nilSl,(I 0),(I 0),(I 0),(I 0)]),none⟩,⟨none,(.store 7 (.t 6) (.t 12)),none⟩,⟨some 7,(.mv (.t 13)),none⟩])
  (.seq (.seq (.ops [⟨some 14,(.mv (.t 7)),none⟩,⟨some 15,(.bin .neq (.t 14) (.k (I 0))),none⟩])
  (.cond (.t 15)
    (.seq (.ops [⟨some 16,(.mv (.t 7)),none⟩,⟨some 4,(.mv (.k nilSl)),none⟩,⟨some 5,(.mv (.t 16)),none⟩])
    .ret)
    .skip))
  (.seq (.ops [⟨some 17,(.load true 7 (.t 6)),none⟩,⟨some 18,(.call (.k (.fn (.func 32) [] [])) [(.t 17)]),none⟩,⟨some 4,(.mv (.t 18)),none⟩,⟨some 5,(.mv (.k (I 0))),none⟩])
  .ret))))
def c15 : ICode := b15
theorem w15 : W x Q c15 ks fr H ms = W x Q b15 ks fr H ms := rfl
def r15 : List IRes := [(.tmp 4),(.tmp 5)]
theorem t15 : Try.f15.body.bind (trCode Try.prog Try.f15.ntmps) = some (strip c15) := by kernel_rfl
theorem q15 : trRes Try.prog Try.f15.results.toList = some r15 := by kernel_rfl
theorem fn15 : Try.prog.funcs[15]? = some Try.f15 := by kernel_rfl
theorem nn15 : (Try.f15.name == "runtime.NumGoroutine") = false := by kernel_rfl
theorem nt15 : Try.f15.ntmps = 19 := by kernel_rfl
abbrev b58T1 : ICode :=
  (.keep [5] (.seq (.ops [⟨some 33,(.load false 1 (.t 5)),none⟩,⟨some 4,(.mv (.t 33)),none⟩])
  .ret))
def c58T1 : ICode := b58T1
theorem w58T1 : W x Q c58T1 ks fr H ms = W x Q b58T1 ks fr H ms := rfl
/- live: [1,2,5,6] -/
abbrev b58L0 : ICode :=
  (.seq (.seq (.ops [⟨some 16,(.load false 1 (.t 6)),none⟩,⟨some 17,(.len (.t 16)),none⟩,⟨some 18,(.bin .gtr (.t 17) (.k (I 0))),none⟩])
  (.cond (.t 18)
    .skip
    (.exit 0)))
  (.seq (.block 1 (.seq (.seq (.ops [⟨some 21,(.mv (.t 1)),none⟩,⟨some 22,(.load false 1 (.t 6)),none⟩,⟨some 23,(.ixS 4 (.t 22) (.k (I 0))),none⟩,⟨some 24,(.load true 4 (.t 23)),none⟩,⟨some 25,(.call (.t 21) [(.t 24)]),none⟩])
  (.cond (.t 25)
    (.exit 0)
    .skip))
  (.draw 0 [] (.early 1 ⟨some 26,(.load true 7 (.t 2)),none⟩
    (.early 1 ⟨some 27,(.load false 1 (.t 6)),none⟩
    (.early 1 ⟨some 28,(.ixS 4 (.t 27) (.k (I 0))),none⟩
    (.early 1 ⟨some 29,(.load true 4 (.t 28)),none⟩
    (.early 1 ⟨some 30,(.mkfn (.func 93) [] [(.t 5),(.t 6)]),none⟩
    (.step 0 0 ⟨some 31,(.call (.k (.fn (.func 92) [] [])) [(.t 26),(.t 29),(.t 30)]),none⟩
    .done)))))))))
  (.seq (.seq (.ops [⟨some 32,(.load false 1 (.t 6)),none⟩])
  (.ops [⟨some 6,(.alloc [nilSl]),none⟩,⟨none,(.store 1 (.t 6) (.t 32)),none⟩]))
  (.ops [⟨some 19,(.load false 1 (.t 6)),none⟩,⟨some 20,(.slS 4 (.t 19) (some (.k (I 1))) none none),none⟩,⟨none,(.store 1 (.t 6) (.t 20)),none⟩]))))
def c58L0 : ICode := b58L0
theorem w58L0 : W x Q c58L0 ks fr H ms = W x Q b58L0 ks fr H ms := rfl
abbrev b58 : ICode :=
  (.seq (.ops [⟨some 2,(.box (.t 0)),none⟩,⟨some 4,(.mv (.k (.val (.map none)))),none⟩])
  (.seq (.ops [⟨some 7,.mkmap,none⟩,⟨some 8,(.fldA 3 (.t 2)),none⟩,⟨some 9,(.load true 4 (.t 8)),none⟩,⟨some 10,(.fldA 3 (.t 2)),none⟩,⟨some 11,(.load true 4 (.t 10)),none⟩,⟨none,(.mset 4 (.t 7) (.t 9) (.t 11)),none⟩,⟨some 12,(.mv (.t 7)),none⟩,⟨some 5,(.alloc [(.val (.map none))]),none⟩,⟨none,(.store 1 (.t 5) (.t 12)),none⟩])
  (.seq (.seq (.ops [⟨some 13,(.fldA 3 (.t 2)),none⟩,⟨some 14,(.load true 4 (.t 13)),none⟩,⟨some 15,(.bslice 4 1 [(I 0),(I 0),(I 0),(I 0)] [(0,4,(.t 14))]),none⟩,⟨some 6,(.alloc [nilSl]),none⟩,⟨none,(.store 1 (.t 6) (.t 15)),none⟩])
  (.block 0 (.loop c58L0)))
  c58T1)))
def c58 : ICode := b58
theorem w58 : W x Q c58 ks fr H ms = W x Q b58 ks fr H ms := rfl
def r58 : List IRes := [(.tmp 4)]
theorem t58 : Try.f58.body.bind (trCode Try.prog Try.f58.ntmps) = some (strip c58) := by kernel_rfl
theorem q58 : trRes Try.prog Try.f58.results.toList = some r58 := by kernel_rfl
theorem fn58 : Try.prog.funcs[58]? = some Try.f58 := by kernel_rfl
theorem nn58 : (Try.f58.name == "runtime.NumGoroutine") = false := by kernel_rfl
theorem nt58 : Try.f58.ntmps = 34 := by kernel_rfl
abbrev b31 : ICode :=
  (.seq (.ops [⟨some 6,(.alloc [nilSl,(I 0),nilSl,(I 0),(I 0),(I 0),(I 0)]),none⟩,⟨some 7,(.mv (.k (I 0))),none⟩])
  (.seq (.ops [⟨some 13,(.mv (.t 0)),none⟩,⟨some 14,(.call (.k (.fn (.func 53) [] [])) [(.t 13)]),none⟩,⟨some 12,(.mv (.t 14)),none⟩,⟨some 15,(.ext (.t 12) 0),none⟩,⟨some 16,(.ext (.t 12) 1),none⟩,⟨some 8,(.alloc [nilSl,(I 0)]),none⟩,⟨none,(.store 2 (.t 8) (.t 15)),none⟩,⟨some 9,(.mv (.t 16)),none⟩])
  (.seq (.seq (.ops [⟨some 17,(.mv (.t 9)),none⟩,⟨some 18,(.un .not (.t 17)),none⟩])
  (.cond (.t 18)
    (.seq (.ops [⟨some 19,(.build [nilSl,(I 0),nilSl,(I 0),(I 0),(I 0),(I 0)] []),none⟩,⟨none,(.store 7 (.t 6) (.t 19)),none⟩,⟨some 7,(.mv (.k (I 2))),none⟩])
    .ret)
    .skip))
  (.seq (.ops [⟨some 21,(.load true 2 (.t 8)),none⟩,⟨some 22,(.mv (.t 1)),none⟩,⟨some 23,(.mv (.t 2)),none⟩,⟨some 24,(.call (.k (.fn (.func 54) [] [])) [(.t 21),(.t 22),(.k (I 0)),(.t 23)]),none⟩,⟨some 20,(.mv (.t 24)),none⟩,⟨some 25,(.ext (.t 20) 0),none⟩,⟨some 26,(.ext (.t 20) 1),none⟩,⟨some 10,(.alloc [(I 0),(I 0),(I 0),(I 0)]),none⟩,⟨none,(.store 4 (.t 10) (.t 25)),none⟩,⟨some 9,(.mv (.t 26)),none⟩])
  (.seq (.seq (.ops [⟨some 27,(.mv (.t 9)),none⟩,⟨some 28,(.un .not (.t 27)),none⟩])
  (.cond (.t 28)
    (.seq (.ops [⟨some 29,(.build [nilSl,(I 0),nilSl,(I 0),(I 0),(I 0),(I 0)] []),none⟩,⟨none,(.store 7 (.t 6) (.t 29)),none⟩,⟨some 7,(.mv (.k (I 2))),none⟩])
    .ret)
    .skip))
  (.seq (.draw 1 [] (.early 1 ⟨some 30,(.load true 2 (.t 8)),none⟩
    (.early 1 ⟨some 31,(.load true 2 (.t 8)),none⟩
    (.early 1 ⟨some 33,(.load true 4 (.t 10)),none⟩
    (.both (.step 0 1 ⟨some 32,(.call (.k (.fn (.func 55) [] [])) [(.t 31)]),none⟩
      (.early 1 ⟨some 34,(.build [nilSl,(I 0),nilSl,(I 0),(I 0),(I 0),(I 0)] [(0,2,(.t 30)),(2,1,(.t 32)),(3,4,(.t 33))]),none⟩
      (.step 0 1 ⟨some 11,(.alloc [nilSl,(I 0),nilSl,(I 0),(I 0),(I 0),(I 0)]),none⟩
      (.step 1 0 ⟨none,(.store 7 (.t 11) (.t 34)),none⟩
      .done))))
    (.step 0 1 ⟨some 11,(.alloc [nilSl,(I 0),nilSl,(I 0),(I 0),(I 0),(I 0)]),none⟩
      (.step 0 1 ⟨some 32,(.call (.k (.fn (.func 55) [] [])) [(.t 31)]),none⟩
      (.early 1 ⟨some 34,(.build [nilSl,(I 0),nilSl,(I 0),(I 0),(I 0),(I 0)] [(0,2,(.t 30)),(2,1,(.t 32)),(3,4,(.t 33))]),none⟩
      (.step 1 0 ⟨none,(.store 7 (.t 11) (.t 34)),none⟩
      .done)))))))))
  (.keep [6,11] (.seq (.seq (.ops [⟨some 35,(.fldA 2 (.t 11)),none⟩,⟨some 36,(.load false 1 (.t 35)),none⟩,⟨some 37,(.call (.k (.fn (.func 56) [] [])) [(.t 36),(.k (.fn (.func 57) [] []))]),none⟩])
  (.cond (.t 37)
    (.seq (.ops [⟨some 38,(.load true 7 (.t 11)),none⟩,⟨none,(.store 7 (.t 6) (.t 38)),none⟩,⟨some 7,(.mv (.k (I 5))),none⟩])
    .ret)
    .skip))
  (.seq (.ops [⟨some 39,(.load true 7 (.t 11)),none⟩,⟨none,(.store 7 (.t 6) (.t 39)),none⟩,⟨some 7,(.mv (.k (I 0))),none⟩])
  .ret)))))))))
def c31 : ICode := b31
theorem w31 : W x Q c31 ks fr H ms = W x Q b31 ks fr H ms := rfl
def r31 : List IRes := [(.cell true 7 6),(.tmp 7)]
theorem t31 : Try.f31.body.bind ((trCodeX [(7,4)]) Try.prog Try.f31.ntmps) = some (strip c31) := by kernel_rfl
theorem q31 : trRes Try.prog Try.f31.results.toList = some r31 := by kernel_rfl
theorem fn31 : Try.prog.funcs[31]? = some Try.f31 := by kernel_rfl
theorem nn31 : (Try.f31.name == "runtime.NumGoroutine") = false := by kernel_rfl
theorem nt31 : Try.f31.ntmps = 40 := by kernel_rfl
abbrev b59 : ICode :=
  (.seq (.ops [⟨some 1,(.box (.t 0)),none⟩,⟨some 2,(.mv (.k (B false))),none⟩])
  (.seq (.ops [⟨some 2,(.mv (.k (B false))),none⟩])
  .ret))
def c59 : ICode := b59
theorem w59 : W x Q c59 ks fr H ms = W x Q b59 ks fr H ms := rfl
def r59 : List IRes := [(.tmp 2)]
theorem t59 : Try.f59.body.bind (trCode Try.prog Try.f59.ntmps) = some (strip c59) := by kernel_rfl
theorem q59 : trRes Try.prog Try.f59.results.toList = some r59 := by kernel_rfl
theorem fn59 : Try.prog.funcs[59]? = some Try.f59 := by kernel_rfl
theorem nn59 : (Try.f59.name == "runtime.NumGoroutine") = false := by kernel_rfl
theorem nt59 : Try.f59.ntmps = 3 := by kernel_rfl
abbrev b32T1 : ICode :=
  (.keep [1,3] (.seq (.ops [⟨some 16,(.fldA 0 (.t 1)),none⟩,⟨some 17,(.load true 2 (.t 16)),none⟩,⟨some 18,(.mv (.t 3)),none⟩,⟨some 19,(.call (.k (.fn (.func 60) [] [])) [(.t 17),(.t 18)]),none⟩,⟨some 2,(.mv (.t 19)),none⟩])
  .ret))
def c32T1 : ICode := b32T1
theorem w32T1 : W x Q c32T1 ks fr H ms = W x Q b32T1 ks fr H ms := rfl
/- live: [1,3,7] -/
abbrev b32L0 : ICode :=
  (.seq (.ops [⟨some 8,(.mnext (.t 7)),none⟩,⟨some 9,(.ext (.t 8) 0),none⟩])
  (.seq (.cond (.t 9)
    .skip
    (.exit 0))
  (.block 1 (.seq (.ops [⟨some 10,(.mentry (.t 7)),none⟩,⟨some 11,(.ext (.t 10) 0),none⟩,⟨some 4,(.alloc [(I 0),(I 0),(I 0),(I 0)]),none⟩,⟨none,(.store 4 (.t 4) (.t 11)),none⟩])
  (.ops [⟨some 12,(.mv (.t 3)),none⟩,⟨some 13,(.load true 4 (.t 4)),none⟩,⟨some 14,(.bslice 4 1 [(I 0),(I 0),(I 0),(I 0)] [(0,4,(.t 13))]),none⟩,⟨some 15,(.append 4 32 (.t 12) (.t 14)),none⟩,⟨some 3,(.mv (.t 15)),none⟩])))))
def c32L0 : ICode := b32L0
theorem w32L0 : W x Q c32L0 ks fr H ms = W x Q b32L0 ks fr H ms := rfl
abbrev b32 : ICode :=
  (.seq (.ops [⟨some 1,(.box (.t 0)),none⟩,⟨some 2,(.mv (.k nilSl)),none⟩])
  (.seq (.ops [⟨some 3,(.mv (.k nilSl)),none⟩])
  (.seq (.seq (.ops [⟨some 5,(.load true 7 (.t 1)),none⟩,⟨some 6,(.call (.k (.fn (.func 58) [] [])) [(.t 5),(.k (.fn (.func 59) [] []))]),none⟩,⟨some 7,(.mrange (.t 6)),none⟩])
  (.block 0 (.loop c32L0)))
  c32T1)))
def c32 : ICode := b32
theorem w32 : W x Q c32 ks fr H ms = W x Q b32 ks fr H ms := rfl
def r32 : List IRes := [(.tmp 2)]
theorem t32 : Try.f32.body.bind (trCode Try.prog Try.f32.ntmps) = some (strip c32) := by kernel_rfl
theorem q32 : trRes Try.prog Try.f32.results.toList = some r32 := by kernel_rfl
theorem fn32 : Try.prog.funcs[32]? = some Try.f32 := by kernel_rfl
theorem nn32 : (Try.f32.name == "runtime.NumGoroutine") = false := by kernel_rfl
theorem nt32 : Try.f32.ntmps = 20 := by kernel_rfl
/- live: [2,4,10,11,12] -/
abbrev b92L0 : ICode :=
  (.seq (.ops [⟨some 13,(.bin .lss (.t 12) (.t 11)),none⟩])
  (.seq (.cond (.t 13)
    .skip
    (.exit 0))
  (.seq (.block 1 (.seq (.ops [⟨some 14,(.ixS 4 (.t 10) (.t 12)),none⟩,⟨some 15,(.load true 4 (.t 14)),none⟩,⟨some 7,(.alloc [(I 0),(I 0),(I 0),(I 0)]),none⟩,⟨none,(.store 4 (.t 7) (.t 15)),none⟩])
  (.seq (.ops [⟨some 16,(.load true 4 (.t 4)),none⟩,⟨some 17,(.load true 4 (.t 7)),none⟩,⟨some 18,(.call (.k (.fn (.func 118) [] [])) [(.t 16),(.k (I 1)),(.t 17)]),none⟩,⟨some 8,(.alloc [(I 0),(I 0),(I 0),(I 0)]),none⟩,⟨none,(.store 4 (.t 8) (.t 18)),none⟩])
  (.seq (.ops [⟨some 19,(.load true 4 (.t 8)),none⟩,⟨some 20,(.call (.k (.fn (.func 57) [] [])) [(.t 19)]),none⟩])
  (.cond (.t 20)
    (.ops [⟨some 21,(.mv (.t 2)),none⟩,⟨some 22,(.load true 4 (.t 8)),none⟩,⟨some 23,(.call (.t 21) [(.t 22)]),none⟩])
    .skip)))))
  (.ops [⟨some 24,(.bin .add (.t 12) (.k (I 1))),none⟩,⟨some 12,(.mv (.t 24)),none⟩]))))
def c92L0 : ICode := b92L0
theorem w92L0 : W x Q c92L0 ks fr H ms = W x Q b92L0 ks fr H ms := rfl
abbrev b92 : ICode :=
  (.seq (.ops [⟨some 3,(.box (.t 0)),none⟩,⟨some 4,(.box (.t 1)),none⟩])
  (.seq (.ops [⟨some 9,(.fldA 2 (.t 3)),none⟩,⟨some 10,(.load false 1 (.t 9)),none⟩,⟨some 11,(.len (.t 10)),none⟩,⟨some 12,(.mv (.k (I 0))),none⟩])
  (.block 0 (.loop c92L0))))
def c92 : ICode := b92
theorem w92 : W x Q c92 ks fr H ms = W x Q b92 ks fr H ms := rfl
def r92 : List IRes := []
theorem t92 : Try.f92.body.bind (trCode Try.prog Try.f92.ntmps) = some (strip c92) := by kernel_rfl
theorem q92 : trRes Try.prog Try.f92.results.toList = some r92 := by kernel_rfl
theorem fn92 : Try.prog.funcs[92]? = some Try.f92 := by kernel_rfl
theorem nn92 : (Try.f92.name == "runtime.NumGoroutine") = false := by kernel_rfl
theorem nt92 : Try.f92.ntmps = 25 := by kernel_rfl
abbrev b93 : ICode :=
  (.seq (.ops [⟨some 3,(.box (.t 0)),none⟩])
  (.seq (.ops [⟨some 7,(.load false 1 (.t 1)),none⟩,⟨some 8,(.load true 4 (.t 3)),none⟩,⟨some 9,(.mget 4 (.agg [(I 0),(I 0),(I 0),(I 0)]) (.t 7) (.t 8)),none⟩,⟨some 6,(.mv (.t 9)),none⟩,⟨some 10,(.ext (.t 6) 0),none⟩,⟨some 11,(.ext (.t 6) 1),none⟩,⟨some 4,(.alloc [(I 0),(I 0),(I 0),(I 0)]),none⟩,⟨none,(.store 4 (.t 4) (.t 10)),none⟩,⟨some 5,(.mv (.t 11)),none⟩])
  (.seq (.ops [⟨some 12,(.mv (.t 5)),none⟩,⟨some 13,(.un .not (.t 12)),none⟩])
  (.cond (.t 13)
    (.seq (.draw 0 [] (.early 1 ⟨some 14,(.load false 1 (.t 1)),none⟩
      (.early 1 ⟨some 15,(.load true 4 (.t 3)),none⟩
      (.early 1 ⟨some 16,(.load false 1 (.t 2)),none⟩
      (.early 1 ⟨some 17,(.ixS 4 (.t 16) (.k (I 0))),none⟩
      (.early 1 ⟨some 18,(.load true 4 (.t 17)),none⟩
      (.step 0 0 ⟨none,(.mset 4 (.t 14) (.t 15) (.t 18)),none⟩
      .done)))))))
    (.keep [2,3] (.ops [⟨some 19,(.load false 1 (.t 2)),none⟩,⟨some 20,(.load true 4 (.t 3)),none⟩,⟨some 21,(.bslice 4 1 [(I 0),(I 0),(I 0),(I 0)] [(0,4,(.t 20))]),none⟩,⟨some 22,(.append 4 32 (.t 19) (.t 21)),none⟩,⟨none,(.store 1 (.t 2) (.t 22)),none⟩])))
    .skip))))
def c93 : ICode := b93
theorem w93 : W x Q c93 ks fr H ms = W x Q b93 ks fr H ms := rfl
def r93 : List IRes := []
theorem t93 : Try.f93.body.bind (trCode Try.prog Try.f93.ntmps) = some (strip c93) := by kernel_rfl
theorem q93 : trRes Try.prog Try.f93.results.toList = some r93 := by kernel_rfl
theorem fn93 : Try.prog.funcs[93]? = some Try.f93 := by kernel_rfl
theorem nn93 : (Try.f93.name == "runtime.NumGoroutine") = false := by kernel_rfl
theorem nt93 : Try.f93.ntmps = 23 := by kernel_rfl
end Go.Proofs.Ytlonaefihjdkpaa
