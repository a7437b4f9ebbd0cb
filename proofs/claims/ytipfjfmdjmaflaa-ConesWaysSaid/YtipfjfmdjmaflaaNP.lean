/- The code of some functions of the program,cleaned: printed by a program of mine,checked here. -/
import Derived.Test.YtipfjfmdjmaflaaProg
import Derived.Test.YtipfjfmdjmaflaaAS
import Derived.Test.YtipfjfmdjmaflaaKA
import Derived.KernelRfl
namespace Go.Proofs.Ytipfjfmdjmaflaa
open Go.Abs AVal
variable {x : Cx} {Q : QT} {ks : List Kont} {fr : Fr} {H : AHeap} {ms : List Nat}
abbrev b69T1 : ICode :=
  (.keep [5] (.seq (.ops [⟨some 33,(.load false 1 (.t 5)),none⟩,⟨some 4,(.mv (.t 33)),none⟩])
  .ret))
def c69T1 : ICode := b69T1
theorem w69T1 : W x Q c69T1 ks fr H ms = W x Q b69T1 ks fr H ms := rfl
/- live: [1,2,5,6] -/
abbrev b69L0 : ICode :=
  (.seq (.seq (.ops [⟨some 16,(.load false 1 (.t 6)),none⟩,⟨some 17,(.len (.t 16)),none⟩,⟨some 18,(.bin .gtr (.t 17) (.k (I 0))),none⟩])
  (.cond (.t 18)
    .skip
    (.exit 0)))
  (.seq (.block 1 (.seq (.seq (.ops [⟨some 21,(.mv (.t 1)),none⟩,⟨some 22,(.load false 1 (.t 6)),none⟩,⟨some 23,(.ixS 4 (.t 22) (.k (I 0))),none⟩,⟨some 24,(.load true 4 (.t 23)),none⟩,⟨some 25,(.call (.t 21) [(.t 24)]),none⟩])
  (.cond (.t 25)
    (.exit 0)
    .skip))
  (.draw 0 [] (.early 1 ⟨some 26,(.load true 7 (.t 2)),none⟩
    (.early 1 ⟨some 27,(.load false 1 (.t 6)),none⟩
    (.early 1 ⟨some 28,(.ixS 4 (.t 27) (.k (I 0))),none⟩
    (.early 1 ⟨some 29,(.load true 4 (.t 28)),none⟩
    (.early 1 ⟨some 30,(.mkfn (.func 106) [] [(.t 5),(.t 6)]),none⟩
    (.step 0 0 ⟨some 31,(.call (.k (.fn (.func 105) [] [])) [(.t 26),(.t 29),(.t 30)]),none⟩
    .done)))))))))
  (.seq (.seq (.ops [⟨some 32,(.load false 1 (.t 6)),none⟩])
  (.ops [⟨some 6,(.alloc [nilSl]),none⟩,⟨none,(.store 1 (.t 6) (.t 32)),none⟩]))
  (.ops [⟨some 19,(.load false 1 (.t 6)),none⟩,⟨some 20,(.slS 4 (.t 19) (some (.k (I 1))) none none),none⟩,⟨none,(.store 1 (.t 6) (.t 20)),none⟩]))))
def c69L0 : ICode := b69L0
theorem w69L0 : W x Q c69L0 ks fr H ms = W x Q b69L0 ks fr H ms := rfl
abbrev b69 : ICode :=
  (.seq (.ops [⟨some 2,(.box (.t 0)),none⟩,⟨some 4,(.mv (.k (.val (.map none)))),none⟩])
  (.seq (.ops [⟨some 7,.mkmap,none⟩,⟨some 8,(.fldA 3 (.t 2)),none⟩,⟨some 9,(.load true 4 (.t 8)),none⟩,⟨some 10,(.fldA 3 (.t 2)),none⟩,⟨some 11,(.load true 4 (.t 10)),none⟩,⟨none,(.mset 4 (.t 7) (.t 9) (.t 11)),none⟩,⟨some 12,(.mv (.t 7)),none⟩,⟨some 5,(.alloc [(.val (.map none))]),none⟩,⟨none,(.store 1 (.t 5) (.t 12)),none⟩])
  (.seq (.seq (.ops [⟨some 13,(.fldA 3 (.t 2)),none⟩,⟨some 14,(.load true 4 (.t 13)),none⟩,⟨some 15,(.bslice 4 1 [(I 0),(I 0),(I 0),(I 0)] [(0,4,(.t 14))]),none⟩,⟨some 6,(.alloc [nilSl]),none⟩,⟨none,(.store 1 (.t 6) (.t 15)),none⟩])
  (.block 0 (.loop c69L0)))
  c69T1)))
def c69 : ICode := b69
theorem w69 : W x Q c69 ks fr H ms = W x Q b69 ks fr H ms := rfl
def r69 : List IRes := [(.tmp 4)]
theorem t69 : Try.f69.body.bind (trCode Try.prog Try.f69.ntmps) = some (strip c69) := by kernel_rfl
theorem q69 : trRes Try.prog Try.f69.results.toList = some r69 := by kernel_rfl
theorem fn69 : Try.prog.funcs[69]? = some Try.f69 := by kernel_rfl
theorem nn69 : (Try.f69.name == "runtime.NumGoroutine") = false := by kernel_rfl
theorem nt69 : Try.f69.ntmps = 34 := by kernel_rfl
abbrev b98 : ICode :=
  (.seq (.ops [⟨some 6,(.alloc [nilSl,(I 0),nilSl,(I 0),(I 0),(I 0),(I 0)]),none⟩,⟨some 7,(.mv (.k (I 0))),none⟩])
  (.seq (.ops [⟨some 13,(.mv (.t 0)),none⟩,⟨some 14,(.call (.k (.fn (.func 62) [] [])) [(.t 13)]),none⟩,⟨some 12,(.mv (.t 14)),none⟩,⟨some 15,(.ext (.t 12) 0),none⟩,⟨some 16,(.ext (.t 12) 1),none⟩,⟨some 8,(.alloc [nilSl,(I 0)]),none⟩,⟨none,(.store 2 (.t 8) (.t 15)),none⟩,⟨some 9,(.mv (.t 16)),none⟩])
  (.seq (.seq (.ops [⟨some 17,(.mv (.t 9)),none⟩,⟨some 18,(.un .not (.t 17)),none⟩])
  (.cond (.t 18)
    (.seq (.ops [⟨some 19,(.build [nilSl,(I 0),nilSl,(I 0),(I 0),(I 0),(I 0)] []),none⟩,⟨none,(.store 7 (.t 6) (.t 19)),none⟩,⟨some 7,(.mv (.k (I 2))),none⟩])
    .ret)
    .skip))
  (.seq (.ops [⟨some 21,(.load true 2 (.t 8)),none⟩,⟨some 22,(.mv (.t 1)),none⟩,⟨some 23,(.mv (.t 2)),none⟩,⟨some 24,(.call (.k (.fn (.func 63) [] [])) [(.t 21),(.t 22),(.k (I 0)),(.t 23)]),none⟩,⟨some 20,(.mv (.t 24)),none⟩,⟨some 25,(.ext (.t 20) 0),none⟩,⟨some 26,(.ext (.t 20) 1),none⟩,⟨some 10,(.alloc [(I 0),(I 0),(I 0),(I 0)]),none⟩,⟨none,(.store 4 (.t 10) (.t 25)),none⟩,⟨some 9,(.mv (.t 26)),none⟩])
  (.seq (.seq (.ops [⟨some 27,(.mv (.t 9)),none⟩,⟨some 28,(.un .not (.t 27)),none⟩])
  (.cond (.t 28)
    (.seq (.ops [⟨some 29,(.build [nilSl,(I 0),nilSl,(I 0),(I 0),(I 0),(I 0)] []),none⟩,⟨none,(.store 7 (.t 6) (.t 29)),none⟩,⟨some 7,(.mv (.k (I 2))),none⟩])
    .ret)
    .skip))
  (.seq (.draw 1 [] (.early 1 ⟨some 30,(.load true 2 (.t 8)),none⟩
    (.early 1 ⟨some 31,(.load true 2 (.t 8)),none⟩
    (.early 1 ⟨some 33,(.load true 4 (.t 10)),none⟩
    (.both (.step 0 1 ⟨some 32,(.call (.k (.fn (.func 85) [] [])) [(.t 31)]),none⟩
      (.early 1 ⟨some 34,(.build [nilSl,(I 0),nilSl,(I 0),(I 0),(I 0),(I 0)] [(0,2,(.t 30)),(2,1,(.t 32)),(3,4,(.t 33))]),none⟩
      (.step 0 1 ⟨some 11,(.alloc [nilSl,(I 0),nilSl,(I 0),(I 0),(I 0),(I 0)]),none⟩
      (.step 1 0 ⟨none,(.store 7 (.t 11) (.t 34)),none⟩
      .done))))
    (.step 0 1 ⟨some 11,(.alloc [nilSl,(I 0),nilSl,(I 0),(I 0),(I 0),(I 0)]),none⟩
      (.step 0 1 ⟨some 32,(.call (.k (.fn (.func 85) [] [])) [(.t 31)]),none⟩
      (.early 1 ⟨some 34,(.build [nilSl,(I 0),nilSl,(I 0),(I 0),(I 0),(I 0)] [(0,2,(.t 30)),(2,1,(.t 32)),(3,4,(.t 33))]),none⟩
      (.step 1 0 ⟨none,(.store 7 (.t 11) (.t 34)),none⟩
      .done)))))))))
  (.keep [6,11] (.seq (.seq (.ops [⟨some 35,(.fldA 2 (.t 11)),none⟩,⟨some 36,(.load false 1 (.t 35)),none⟩,⟨some 37,(.call (.k (.fn (.func 103) [] [])) [(.t 36),(.k (.fn (.func 130) [] []))]),none⟩])
  (.cond (.t 37)
    (.seq (.ops [⟨some 38,(.load true 7 (.t 11)),none⟩,⟨none,(.store 7 (.t 6) (.t 38)),none⟩,⟨some 7,(.mv (.k (I 5))),none⟩])
    .ret)
    .skip))
  (.seq (.ops [⟨some 39,(.load true 7 (.t 11)),none⟩,⟨none,(.store 7 (.t 6) (.t 39)),none⟩,⟨some 7,(.mv (.k (I 0))),none⟩])
  .ret)))))))))
def c98 : ICode := b98
theorem w98 : W x Q c98 ks fr H ms = W x Q b98 ks fr H ms := rfl
def r98 : List IRes := [(.cell true 7 6),(.tmp 7)]
theorem t98 : Try.f98.body.bind ((trCodeX [(7,4)]) Try.prog Try.f98.ntmps) = some (strip c98) := by kernel_rfl
theorem q98 : trRes Try.prog Try.f98.results.toList = some r98 := by kernel_rfl
theorem fn98 : Try.prog.funcs[98]? = some Try.f98 := by kernel_rfl
theorem nn98 : (Try.f98.name == "runtime.NumGoroutine") = false := by kernel_rfl
theorem nt98 : Try.f98.ntmps = 40 := by kernel_rfl
/- live: [1,3,7] -/
/- live: [2,4,10,11,12] -/
abbrev b105L0 : ICode :=
  (.seq (.ops [⟨some 13,(.bin .lss (.t 12) (.t 11)),none⟩])
  (.seq (.cond (.t 13)
    .skip
    (.exit 0))
  (.seq (.block 1 (.seq (.ops [⟨some 14,(.ixS 4 (.t 10) (.t 12)),none⟩,⟨some 15,(.load true 4 (.t 14)),none⟩,⟨some 7,(.alloc [(I 0),(I 0),(I 0),(I 0)]),none⟩,⟨none,(.store 4 (.t 7) (.t 15)),none⟩])
  (.seq (.ops [⟨some 16,(.load true 4 (.t 4)),none⟩,⟨some 17,(.load true 4 (.t 7)),none⟩,⟨some 18,(.call (.k (.fn (.func 68) [] [])) [(.t 16),(.k (I 1)),(.t 17)]),none⟩,⟨some 8,(.alloc [(I 0),(I 0),(I 0),(I 0)]),none⟩,⟨none,(.store 4 (.t 8) (.t 18)),none⟩])
  (.seq (.ops [⟨some 19,(.load true 4 (.t 8)),none⟩,⟨some 20,(.call (.k (.fn (.func 130) [] [])) [(.t 19)]),none⟩])
  (.cond (.t 20)
    (.ops [⟨some 21,(.mv (.t 2)),none⟩,⟨some 22,(.load true 4 (.t 8)),none⟩,⟨some 23,(.call (.t 21) [(.t 22)]),none⟩])
    .skip)))))
  (.ops [⟨some 24,(.bin .add (.t 12) (.k (I 1))),none⟩,⟨some 12,(.mv (.t 24)),none⟩]))))
def c105L0 : ICode := b105L0
theorem w105L0 : W x Q c105L0 ks fr H ms = W x Q b105L0 ks fr H ms := rfl
abbrev b105 : ICode :=
  (.seq (.ops [⟨some 3,(.box (.t 0)),none⟩,⟨some 4,(.box (.t 1)),none⟩])
  (.seq (.ops [⟨some 9,(.fldA 2 (.t 3)),none⟩,⟨some 10,(.load false 1 (.t 9)),none⟩,⟨some 11,(.len (.t 10)),none⟩,⟨some 12,(.mv (.k (I 0))),none⟩])
  (.block 0 (.loop c105L0))))
def c105 : ICode := b105
theorem w105 : W x Q c105 ks fr H ms = W x Q b105 ks fr H ms := rfl
def r105 : List IRes := []
theorem t105 : Try.f105.body.bind (trCode Try.prog Try.f105.ntmps) = some (strip c105) := by kernel_rfl
theorem q105 : trRes Try.prog Try.f105.results.toList = some r105 := by kernel_rfl
theorem fn105 : Try.prog.funcs[105]? = some Try.f105 := by kernel_rfl
theorem nn105 : (Try.f105.name == "runtime.NumGoroutine") = false := by kernel_rfl
theorem nt105 : Try.f105.ntmps = 25 := by kernel_rfl
abbrev b106 : ICode :=
  (.seq (.ops [⟨some 3,(.box (.t 0)),none⟩])
  (.seq (.ops [⟨some 7,(.load false 1 (.t 1)),none⟩,⟨some 8,(.load true 4 (.t 3)),none⟩,⟨some 9,(.mget 4 (.agg [(I 0),(I 0),(I 0),(I 0)]) (.t 7) (.t 8)),none⟩,⟨some 6,(.mv (.t 9)),none⟩,⟨some 10,(.ext (.t 6) 0),none⟩,⟨some 11,(.ext (.t 6) 1),none⟩,⟨some 4,(.alloc [(I 0),(I 0),(I 0),(I 0)]),none⟩,⟨none,(.store 4 (.t 4) (.t 10)),none⟩,⟨some 5,(.mv (.t 11)),none⟩])
  (.seq (.ops [⟨some 12,(.mv (.t 5)),none⟩,⟨some 13,(.un .not (.t 12)),none⟩])
  (.cond (.t 13)
    (.seq (.draw 0 [] (.early 1 ⟨some 14,(.load false 1 (.t 1)),none⟩
      (.early 1 ⟨some 15,(.load true 4 (.t 3)),none⟩
      (.early 1 ⟨some 16,(.load false 1 (.t 2)),none⟩
      (.early 1 ⟨some 17,(.ixS 4 (.t 16) (.k (I 0))),none⟩
      (.early 1 ⟨some 18,(.load true 4 (.t 17)),none⟩
      (.step 0 0 ⟨none,(.mset 4 (.t 14) (.t 15) (.t 18)),none⟩
      .done)))))))
    (.keep [2,3] (.ops [⟨some 19,(.load false 1 (.t 2)),none⟩,⟨some 20,(.load true 4 (.t 3)),none⟩,⟨some 21,(.bslice 4 1 [(I 0),(I 0),(I 0),(I 0)] [(0,4,(.t 20))]),none⟩,⟨some 22,(.append 4 32 (.t 19) (.t 21)),none⟩,⟨none,(.store 1 (.t 2) (.t 22)),none⟩])))
    .skip))))
def c106 : ICode := b106
theorem w106 : W x Q c106 ks fr H ms = W x Q b106 ks fr H ms := rfl
def r106 : List IRes := []
theorem t106 : Try.f106.body.bind (trCode Try.prog Try.f106.ntmps) = some (strip c106) := by kernel_rfl
theorem q106 : trRes Try.prog Try.f106.results.toList = some r106 := by kernel_rfl
theorem fn106 : Try.prog.funcs[106]? = some Try.f106 := by kernel_rfl
theorem nn106 : (Try.f106.name == "runtime.NumGoroutine") = false := by kernel_rfl
theorem nt106 : Try.f106.ntmps = 23 := by kernel_rfl
end Go.Proofs.Ytipfjfmdjmaflaa
