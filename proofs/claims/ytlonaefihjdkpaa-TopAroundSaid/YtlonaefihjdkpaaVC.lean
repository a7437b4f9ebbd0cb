/- The code of some functions of the program,cleaned: printed by a program of mine,checked here. -/
import Derived.Test.YtlonaefihjdkpaaProg
import Derived.Test.YtlonaefihjdkpaaAS
import Derived.Test.YtlonaefihjdkpaaUCE
import Derived.KernelRfl
namespace Go.Proofs.Ytlonaefihjdkpaa
open Go.Abs AVal
variable {x : Cx} {Q : QT} {ks : List Kont} {fr : Fr} {H : AHeap} {ms : List Nat}
abbrev b9 : ICode :=
  (.seq (.ops [⟨some 0,(.mv (.k (B false))),none⟩])
  (.seq (.ops [⟨some 4,(.bslice 1 2 [(I 0)] [(0,1,(.k (I 2))),(1,1,(.k (I 1)))]),none⟩,⟨some 5,(.bslice 1 2 [(I 0)] [(0,1,(.k (I 0))),(1,1,(.k (I 1)))]),none⟩,⟨some 6,(.build [nilSl,nilSl] [(0,1,(.t 4)),(1,1,(.t 5))]),none⟩,⟨some 7,(.call (.k (.fn (.func 21) [] [])) [(.t 6),(.k (.val (.string (.mk #[48]))))]),none⟩,⟨some 3,(.mv (.t 7)),none⟩,⟨some 8,(.ext (.t 3) 0),none⟩,⟨some 9,(.ext (.t 3) 1),none⟩,⟨some 1,(.mv (.t 8)),none⟩,⟨some 2,(.mv (.t 9)),none⟩])
  (.seq (.ops [⟨some 10,(.mv (.t 1)),none⟩,⟨some 11,(.bin .eql (.t 10) (.k (I 2))),none⟩,⟨some 12,(.mv (.t 11)),none⟩,⟨some 13,(.mv (.t 2)),some (12,true)⟩,⟨some 14,(.bin .eql (.t 13) (.k (I 0))),some (12,true)⟩,⟨some 15,(.pick (.t 12) (.t 14) (.k (B false))),none⟩,⟨some 0,(.mv (.t 15)),none⟩])
  .ret)))
def c9 : ICode := b9
theorem w9 : W x Q c9 ks fr H ms = W x Q b9 ks fr H ms := rfl
def r9 : List IRes := [(.tmp 0)]
theorem t9 : Try.f9.body.bind (trCode Try.prog Try.f9.ntmps) = some (strip c9) := by kernel_rfl
theorem q9 : trRes Try.prog Try.f9.results.toList = some r9 := by kernel_rfl
theorem fn9 : Try.prog.funcs[9]? = some Try.f9 := by kernel_rfl
theorem nn9 : (Try.f9.name == "runtime.NumGoroutine") = false := by kernel_rfl
theorem nt9 : Try.f9.ntmps = 16 := by kernel_rfl
/- live: [2,3,12,13] -/
abbrev b13T1 : ICode :=
  (.keep [3] (.seq (.ops [⟨some 21,(.load false 1 (.t 3)),none⟩,⟨some 4,(.mv (.t 21)),none⟩,⟨some 5,(.mv (.k (I 0))),none⟩])
  .ret))
def c13T1 : ICode := b13T1
theorem w13T1 : W x Q c13T1 ks fr H ms = W x Q b13T1 ks fr H ms := rfl
/- live: [2,3,12,13] -/
abbrev b13L0 : ICode :=
  (.seq (.ops [⟨some 14,(.bin .lss (.t 13) (.t 12)),none⟩])
  (.seq (.cond (.t 14)
    .skip
    (.exit 0))
  (.seq (.block 1 (.draw 0 [] (.early 1 ⟨some 15,(.load false 1 (.t 3)),none⟩
    (.early 1 ⟨some 16,(.load true 2 (.t 2)),none⟩
    (.early 1 ⟨some 17,(.mkfn (.func 27) [] [(.t 2),(.t 3)]),none⟩
    (.early 1 ⟨some 18,(.call (.k (.fn (.func 23) [] [])) [(.t 16),(.t 17)]),none⟩
    (.early 0 ⟨some 19,(.bin .and (.t 15) (.t 18)),none⟩
    (.step 0 0 ⟨none,(.store 1 (.t 3) (.t 19)),none⟩
    .done))))))))
  (.ops [⟨some 20,(.bin .add (.t 13) (.k (I 1))),none⟩,⟨some 13,(.mv (.t 20)),none⟩]))))
def c13L0 : ICode := b13L0
theorem w13L0 : W x Q c13L0 ks fr H ms = W x Q b13L0 ks fr H ms := rfl
abbrev b13 : ICode :=
  (.seq (.ops [⟨some 2,(.box (.t 0)),none⟩,⟨some 3,(.box (.t 1)),none⟩,⟨some 4,(.mv (.k (I 0))),none⟩,⟨some 5,(.mv (.k (I 0))),none⟩])
  (.seq (.seq (.ops [⟨some 6,(.load true 2 (.t 2)),none⟩,⟨some 7,(.load false 1 (.t 3)),none⟩,⟨some 8,(.call (.k (.fn (.func 22) [] [])) [(.t 6),(.t 7)]),none⟩,⟨some 9,(.un .not (.t 8)),none⟩])
  (.cond (.t 9)
    (.seq (.ops [⟨some 4,(.mv (.k (I 0))),none⟩,⟨some 5,(.mv (.k (I 2))),none⟩])
    .ret)
    .skip))
  (.seq (.seq (.ops [⟨some 10,(.fldA 0 (.t 2)),none⟩,⟨some 11,(.load false 1 (.t 10)),none⟩,⟨some 12,(.len (.t 11)),none⟩,⟨some 13,(.mv (.k (I 0))),none⟩])
  (.block 0 (.loop c13L0)))
  c13T1)))
def c13 : ICode := b13
theorem w13 : W x Q c13 ks fr H ms = W x Q b13 ks fr H ms := rfl
def r13 : List IRes := [(.tmp 4),(.tmp 5)]
theorem t13 : Try.f13.body.bind (trCode Try.prog Try.f13.ntmps) = some (strip c13) := by kernel_rfl
theorem q13 : trRes Try.prog Try.f13.results.toList = some r13 := by kernel_rfl
theorem fn13 : Try.prog.funcs[13]? = some Try.f13 := by kernel_rfl
theorem nn13 : (Try.f13.name == "runtime.NumGoroutine") = false := by kernel_rfl
theorem nt13 : Try.f13.ntmps = 22 := by kernel_rfl
abbrev b21 : ICode :=
  (.seq (.ops [⟨some 2,(.box (.t 0)),none⟩,⟨some 4,(.mv (.k (I 0))),none⟩,⟨some 5,(.mv (.k (I 0))),none⟩])
  (.seq (.ops [⟨some 9,(.load true 2 (.t 2)),none⟩,⟨some 10,(.mv (.t 1)),none⟩,⟨some 11,(.call (.k (.fn (.func 46) [] [])) [(.t 9),(.t 10)]),none⟩,⟨some 8,(.mv (.t 11)),none⟩,⟨some 12,(.ext (.t 8) 0),none⟩,⟨some 13,(.ext (.t 8) 1),none⟩,⟨some 6,(.mv (.t 12)),none⟩,⟨some 7,(.mv (.t 13)),none⟩])
  (.seq (.seq (.ops [⟨some 14,(.mv (.t 7)),none⟩,⟨some 15,(.bin .neq (.t 14) (.k (I 0))),none⟩])
  (.cond (.t 15)
    (.seq (.ops [⟨some 16,(.mv (.t 7)),none⟩,⟨some 4,(.mv (.k (I 0))),none⟩,⟨some 5,(.mv (.t 16)),none⟩])
    .ret)
    .skip))
  (.seq (.ops [⟨some 17,(.load true 2 (.t 2)),none⟩,⟨some 18,(.mv (.t 6)),none⟩,⟨some 19,.mkmap,none⟩,⟨some 20,(.call (.k (.fn (.func 47) [] [])) [(.t 17),(.t 18),(.t 19)]),none⟩,⟨some 4,(.mv (.t 20)),none⟩,⟨some 5,(.mv (.k (I 0))),none⟩])
  .ret))))
def c21 : ICode := b21
theorem w21 : W x Q c21 ks fr H ms = W x Q b21 ks fr H ms := rfl
def r21 : List IRes := [(.tmp 4),(.tmp 5)]
theorem t21 : Try.f21.body.bind (trCode Try.prog Try.f21.ntmps) = some (strip c21) := by kernel_rfl
theorem q21 : trRes Try.prog Try.f21.results.toList = some r21 := by kernel_rfl
theorem fn21 : Try.prog.funcs[21]? = some Try.f21 := by kernel_rfl
theorem nn21 : (Try.f21.name == "runtime.NumGoroutine") = false := by kernel_rfl
theorem nt21 : Try.f21.ntmps = 21 := by kernel_rfl
abbrev b22 : ICode :=
  (.seq (.ops [⟨some 2,(.box (.t 0)),none⟩,⟨some 4,(.mv (.k (B false))),none⟩])
  (.seq (.ops [⟨some 5,(.load true 2 (.t 2)),none⟩,⟨some 6,(.call (.k (.fn (.func 48) [] [])) [(.t 5)]),none⟩,⟨some 7,(.mv (.t 6)),none⟩,⟨some 8,(.mv (.t 1)),some (7,true)⟩,⟨some 9,(.bin .geq (.t 8) (.k (I 0))),some (7,true)⟩,⟨some 10,(.pick (.t 7) (.t 9) (.k (B false))),none⟩,⟨some 11,(.mv (.t 10)),none⟩,⟨some 12,(.mv (.t 1)),some (11,true)⟩,⟨some 13,(.load true 2 (.t 2)),some (11,true)⟩,⟨some 14,(.call (.k (.fn (.func 49) [] [])) [(.t 13)]),some (11,true)⟩,⟨some 15,(.bin .leq (.t 12) (.t 14)),some (11,true)⟩,⟨some 16,(.pick (.t 11) (.t 15) (.k (B false))),none⟩,⟨some 4,(.mv (.t 16)),none⟩])
  .ret))
def c22 : ICode := b22
theorem w22 : W x Q c22 ks fr H ms = W x Q b22 ks fr H ms := rfl
def r22 : List IRes := [(.tmp 4)]
theorem t22 : Try.f22.body.bind (trCode Try.prog Try.f22.ntmps) = some (strip c22) := by kernel_rfl
theorem q22 : trRes Try.prog Try.f22.results.toList = some r22 := by kernel_rfl
theorem fn22 : Try.prog.funcs[22]? = some Try.f22 := by kernel_rfl
theorem nn22 : (Try.f22.name == "runtime.NumGoroutine") = false := by kernel_rfl
theorem nt22 : Try.f22.ntmps = 17 := by kernel_rfl
abbrev b23T1 : ICode :=
  (.keep [5] (.seq (.ops [⟨some 21,(.mv (.t 5)),none⟩,⟨some 4,(.mv (.t 21)),none⟩])
  .ret))
def c23T1 : ICode := b23T1
theorem w23T1 : W x Q c23T1 ks fr H ms = W x Q b23T1 ks fr H ms := rfl
/- live: [1,5,9,10] -/
abbrev b23L0 : ICode :=
  (.seq (.ops [⟨some 11,(.bin .lss (.t 10) (.t 9)),none⟩])
  (.seq (.cond (.t 11)
    .skip
    (.exit 0))
  (.seq (.block 1 (.seq (.ops [⟨some 12,(.mv (.t 10)),none⟩,⟨some 6,(.mv (.t 12)),none⟩])
  (.seq (.ops [⟨some 13,(.mv (.t 1)),none⟩,⟨some 14,(.mv (.t 6)),none⟩,⟨some 15,(.call (.t 13) [(.t 14)]),none⟩])
  (.cond (.t 15)
    (.ops [⟨some 16,(.mv (.t 5)),none⟩,⟨some 17,(.mv (.t 6)),none⟩,⟨some 18,(.bin .shl (.k (I 1)) (.t 17)),none⟩,⟨some 19,(.bin .or (.t 16) (.t 18)),none⟩,⟨some 5,(.mv (.t 19)),none⟩])
    .skip))))
  (.ops [⟨some 20,(.bin .add (.t 10) (.k (I 1))),none⟩,⟨some 10,(.mv (.t 20)),none⟩]))))
def c23L0 : ICode := b23L0
theorem w23L0 : W x Q c23L0 ks fr H ms = W x Q b23L0 ks fr H ms := rfl
abbrev b23 : ICode :=
  (.seq (.ops [⟨some 2,(.box (.t 0)),none⟩,⟨some 4,(.mv (.k (I 0))),none⟩])
  (.seq (.ops [⟨some 5,(.mv (.k (I 0))),none⟩])
  (.seq (.seq (.ops [⟨some 7,(.fldA 0 (.t 2)),none⟩,⟨some 8,(.load false 1 (.t 7)),none⟩,⟨some 9,(.len (.t 8)),none⟩,⟨some 10,(.mv (.k (I 0))),none⟩])
  (.block 0 (.loop c23L0)))
  c23T1)))
def c23 : ICode := b23
theorem w23 : W x Q c23 ks fr H ms = W x Q b23 ks fr H ms := rfl
def r23 : List IRes := [(.tmp 4)]
theorem t23 : Try.f23.body.bind (trCode Try.prog Try.f23.ntmps) = some (strip c23) := by kernel_rfl
theorem q23 : trRes Try.prog Try.f23.results.toList = some r23 := by kernel_rfl
theorem fn23 : Try.prog.funcs[23]? = some Try.f23 := by kernel_rfl
theorem nn23 : (Try.f23.name == "runtime.NumGoroutine") = false := by kernel_rfl
theorem nt23 : Try.f23.ntmps = 22 := by kernel_rfl
abbrev b27 : ICode :=
  (.seq (.ops [⟨some 4,(.mv (.k (B false))),none⟩])
  (.seq (.draw 0 [] (.early 1 ⟨some 5,(.fldA 0 (.t 1)),none⟩
    (.early 1 ⟨some 6,(.load false 1 (.t 5)),none⟩
    (.early 1 ⟨some 7,(.mv (.t 0)),none⟩
    (.early 1 ⟨some 8,(.ixS 1 (.t 6) (.t 7)),none⟩
    (.early 1 ⟨some 9,(.load false 1 (.t 8)),none⟩
    (.early 1 ⟨some 10,(.load false 1 (.t 2)),none⟩
    (.early 0 ⟨some 11,(.bin .and (.t 9) (.t 10)),none⟩
    (.early 0 ⟨some 12,(.bin .neq (.t 11) (.k (I 0))),none⟩
    (.early 0 ⟨some 4,(.mv (.t 12)),none⟩
    .done))))))))))
  (.keep [4] .ret)))
def c27 : ICode := b27
theorem w27 : W x Q c27 ks fr H ms = W x Q b27 ks fr H ms := rfl
def r27 : List IRes := [(.tmp 4)]
theorem t27 : Try.f27.body.bind (trCode Try.prog Try.f27.ntmps) = some (strip c27) := by kernel_rfl
theorem q27 : trRes Try.prog Try.f27.results.toList = some r27 := by kernel_rfl
theorem fn27 : Try.prog.funcs[27]? = some Try.f27 := by kernel_rfl
theorem nn27 : (Try.f27.name == "runtime.NumGoroutine") = false := by kernel_rfl
theorem nt27 : Try.f27.ntmps = 13 := by kernel_rfl
abbrev b46 : ICode :=
  (.seq (.ops [⟨some 2,(.box (.t 0)),none⟩,⟨some 4,(.mv (.k (.val (.pointer none)))),none⟩,⟨some 5,(.mv (.k (I 0))),none⟩])
  (.seq (.seq (.ops [⟨some 7,(.load true 2 (.t 2)),none⟩,⟨some 8,(.call (.k (.fn (.func 48) [] [])) [(.t 7)]),none⟩,⟨some 9,(.un .not (.t 8)),none⟩])
  (.cond (.t 9)
    (.seq (.ops [⟨some 4,(.mv (.k (.val (.pointer none)))),none⟩,⟨some 5,(.mv (.k (I 2))),none⟩])
    .ret)
    .skip))
  (.seq (.view (.keep [1] (.ops [⟨some 10,(.mv (.t 1)),none⟩,⟨some 11,(.call (.k (.fn (.func 71) [] [])) [(.t 10),(.k (I 40))]),none⟩,⟨some 6,(.mv (.t 11)),none⟩])))
  (.seq (.seq (.ops [⟨some 12,(.mv (.t 6)),none⟩,⟨some 13,(.eqp false (.t 12)),none⟩])
  (.cond (.t 13)
    (.seq (.ops [⟨some 4,(.mv (.k (.val (.pointer none)))),none⟩,⟨some 5,(.mv (.k (I 3))),none⟩])
    .ret)
    .skip))
  (.seq (.ops [⟨some 14,(.mv (.t 6)),none⟩,⟨some 4,(.mv (.t 14)),none⟩,⟨some 5,(.mv (.k (I 0))),none⟩])
  .ret)))))
def c46 : ICode := b46
theorem w46 : W x Q c46 ks fr H ms = W x Q b46 ks fr H ms := rfl
def r46 : List IRes := [(.tmp 4),(.tmp 5)]
theorem t46 : Try.f46.body.bind (trCode Try.prog Try.f46.ntmps) = some (strip c46) := by kernel_rfl
theorem q46 : trRes Try.prog Try.f46.results.toList = some r46 := by kernel_rfl
theorem fn46 : Try.prog.funcs[46]? = some Try.f46 := by kernel_rfl
theorem nn46 : (Try.f46.name == "runtime.NumGoroutine") = false := by kernel_rfl
theorem nt46 : Try.f46.ntmps = 15 := by kernel_rfl
abbrev b47 : ICode :=
  (.seq (.ops [⟨some 3,(.box (.t 0)),none⟩,⟨some 4,(.box (.t 1)),none⟩,⟨some 6,(.mv (.k (I 0))),none⟩])
  (.seq (.seq (.ops [⟨some 11,(.load false 1 (.t 4)),none⟩,⟨some 12,(.nilck (.t 11)),none⟩,⟨some 13,(.fldA 0 (.t 12)),none⟩,⟨some 14,(.load false 1 (.t 13)),none⟩])
  (.block 0 (.seq (.ops [⟨some 16,(.bin .eql (.t 14) (.k (.val (.int .u8 48)))),none⟩,⟨some 15,(.mv (.t 16)),none⟩])
  (.cond (.t 15)
    (.seq (.ops [⟨some 17,(.load true 2 (.t 3)),none⟩,⟨some 18,(.mkfn (.func 72) [] [(.t 3),(.t 4)]),none⟩,⟨some 19,(.call (.k (.fn (.func 23) [] [])) [(.t 17),(.t 18)]),none⟩,⟨some 6,(.mv (.t 19)),none⟩])
    .ret)
    (.seq (.ops [⟨some 21,(.bin .eql (.t 14) (.k (.val (.int .u8 45)))),none⟩,⟨some 20,(.mv (.t 21)),none⟩])
    (.cond (.t 20)
      (.seq (.ops [⟨some 22,(.load true 2 (.t 3)),none⟩,⟨some 23,(.mkfn (.func 73) [] [(.t 3),(.t 4)]),none⟩,⟨some 24,(.call (.k (.fn (.func 23) [] [])) [(.t 22),(.t 23)]),none⟩,⟨some 6,(.mv (.t 24)),none⟩])
      .ret)
      (.seq (.ops [⟨some 26,(.bin .eql (.t 14) (.k (.val (.int .u8 116)))),none⟩,⟨some 25,(.mv (.t 26)),none⟩])
      (.cond (.t 25)
        (.seq (.ops [⟨some 27,(.load true 2 (.t 3)),none⟩,⟨some 28,(.call (.k (.fn (.func 49) [] [])) [(.t 27)]),none⟩,⟨some 6,(.mv (.t 28)),none⟩])
        .ret)
        (.seq (.ops [⟨some 30,(.bin .eql (.t 14) (.k (.val (.int .u8 102)))),none⟩,⟨some 29,(.mv (.t 30)),none⟩])
        (.cond (.t 29)
          (.seq (.ops [⟨some 6,(.mv (.k (I 0))),none⟩])
          .ret)
          (.seq (.ops [⟨some 32,(.bin .eql (.t 14) (.k (.val (.int .u8 120)))),none⟩,⟨some 31,(.mv (.t 32)),none⟩])
          (.cond (.t 31)
            (.seq .no
            .ret)
            (.seq (.ops [⟨some 40,(.bin .eql (.t 14) (.k (.val (.int .u8 38)))),none⟩,⟨some 39,(.mv (.t 40)),none⟩])
            (.cond (.t 39)
              (.seq (.draw 0 [] (.early 1 ⟨some 41,(.load true 2 (.t 3)),none⟩
                (.early 1 ⟨some 42,(.load false 1 (.t 4)),none⟩
                (.early 1 ⟨some 43,(.nilck (.t 42)),none⟩
                (.early 1 ⟨some 44,(.fldA 3 (.t 43)),none⟩
                (.early 1 ⟨some 45,(.load false 1 (.t 44)),none⟩
                (.early 1 ⟨some 46,(.ixS 1 (.t 45) (.k (I 0))),none⟩
                (.early 1 ⟨some 47,(.load false 1 (.t 46)),none⟩
                (.early 1 ⟨some 48,(.mv (.t 2)),none⟩
                (.early 1 ⟨some 49,(.call (.k (.fn (.func 47) [] [])) [(.t 41),(.t 47),(.t 48)]),none⟩
                (.early 1 ⟨some 50,(.load true 2 (.t 3)),none⟩
                (.early 1 ⟨some 51,(.load false 1 (.t 4)),none⟩
                (.early 1 ⟨some 52,(.nilck (.t 51)),none⟩
                (.early 1 ⟨some 53,(.fldA 3 (.t 52)),none⟩
                (.early 1 ⟨some 54,(.load false 1 (.t 53)),none⟩
                (.early 1 ⟨some 55,(.ixS 1 (.t 54) (.k (I 1))),none⟩
                (.early 1 ⟨some 56,(.load false 1 (.t 55)),none⟩
                (.early 1 ⟨some 57,(.mv (.t 2)),none⟩
                (.step 0 0 ⟨some 58,(.call (.k (.fn (.func 47) [] [])) [(.t 50),(.t 56),(.t 57)]),none⟩
                (.early 0 ⟨some 59,(.bin .and (.t 49) (.t 58)),none⟩
                (.early 0 ⟨some 6,(.mv (.t 59)),none⟩
                .done)))))))))))))))))))))
              (.keep [6] .ret))
              (.seq (.ops [⟨some 61,(.bin .eql (.t 14) (.k (.val (.int .u8 124)))),none⟩,⟨some 60,(.mv (.t 61)),none⟩])
              (.cond (.t 60)
                (.seq (.draw 0 [] (.early 1 ⟨some 62,(.load true 2 (.t 3)),none⟩
                  (.early 1 ⟨some 63,(.load false 1 (.t 4)),none⟩
                  (.early 1 ⟨some 64,(.nilck (.t 63)),none⟩
                  (.early 1 ⟨some 65,(.fldA 3 (.t 64)),none⟩
                  (.early 1 ⟨some 66,(.load false 1 (.t 65)),none⟩
                  (.early 1 ⟨some 67,(.ixS 1 (.t 66) (.k (I 0))),none⟩
                  (.early 1 ⟨some 68,(.load false 1 (.t 67)),none⟩
                  (.early 1 ⟨some 69,(.mv (.t 2)),none⟩
                  (.early 1 ⟨some 70,(.call (.k (.fn (.func 47) [] [])) [(.t 62),(.t 68),(.t 69)]),none⟩
                  (.early 1 ⟨some 71,(.load true 2 (.t 3)),none⟩
                  (.early 1 ⟨some 72,(.load false 1 (.t 4)),none⟩
                  (.early 1 ⟨some 73,(.nilck (.t 72)),none⟩
                  (.early 1 ⟨some 74,(.fldA 3 (.t 73)),none⟩
                  (.early 1 ⟨some 75,(.load false 1 (.t 74)),none⟩
                  (.early 1 ⟨some 76,(.ixS 1 (.t 75) (.k (I 1))),none⟩
                  (.early 1 ⟨some 77,(.load false 1 (.t 76)),none⟩
                  (.early 1 ⟨some 78,(.mv (.t 2)),none⟩
                  (.step 0 0 ⟨some 79,(.call (.k (.fn (.func 47) [] [])) [(.t 71),(.t 77),(.t 78)]),none⟩
                  (.early 0 ⟨some 80,(.bin .or (.t 70) (.t 79)),none⟩
                  (.early 0 ⟨some 6,(.mv (.t 80)),none⟩
                  .done)))))))))))))))))))))
                (.keep [6] .ret))
                (.seq (.ops [⟨some 82,(.bin .eql (.t 14) (.k (.val (.int .u8 60)))),none⟩,⟨some 81,(.mv (.t 82)),none⟩])
                (.cond (.t 81)
                  (.seq (.draw 1 [] (.early 1 ⟨some 83,(.load true 2 (.t 3)),none⟩
                    (.early 1 ⟨some 84,(.load false 1 (.t 4)),none⟩
                    (.early 1 ⟨some 85,(.nilck (.t 84)),none⟩
                    (.early 1 ⟨some 86,(.fldA 3 (.t 85)),none⟩
                    (.early 1 ⟨some 87,(.load false 1 (.t 86)),none⟩
                    (.early 1 ⟨some 88,(.ixS 1 (.t 87) (.k (I 0))),none⟩
                    (.early 1 ⟨some 89,(.load false 1 (.t 88)),none⟩
                    (.early 1 ⟨some 90,(.mv (.t 2)),none⟩
                    (.early 1 ⟨some 91,(.call (.k (.fn (.func 47) [] [])) [(.t 83),(.t 89),(.t 90)]),none⟩
                    (.step 0 1 ⟨some 7,(.alloc [(I 0)]),none⟩
                    (.step 1 0 ⟨none,(.store 1 (.t 7) (.t 91)),none⟩
                    .done))))))))))))
                  (.keep [3,7] (.seq (.ops [⟨some 92,(.load true 2 (.t 3)),none⟩,⟨some 93,(.mkfn (.func 74) [] [(.t 3),(.t 7)]),none⟩,⟨some 94,(.call (.k (.fn (.func 23) [] [])) [(.t 92),(.t 93)]),none⟩,⟨some 6,(.mv (.t 94)),none⟩])
                  .ret)))
                  (.seq (.ops [⟨some 96,(.bin .eql (.t 14) (.k (.val (.int .u8 91)))),none⟩,⟨some 95,(.mv (.t 96)),none⟩])
                  (.cond (.t 95)
                    (.seq (.draw 1 [] (.early 1 ⟨some 97,(.load true 2 (.t 3)),none⟩
                      (.early 1 ⟨some 98,(.load false 1 (.t 4)),none⟩
                      (.early 1 ⟨some 99,(.nilck (.t 98)),none⟩
                      (.early 1 ⟨some 100,(.fldA 3 (.t 99)),none⟩
                      (.early 1 ⟨some 101,(.load false 1 (.t 100)),none⟩
                      (.early 1 ⟨some 102,(.ixS 1 (.t 101) (.k (I 0))),none⟩
                      (.early 1 ⟨some 103,(.load false 1 (.t 102)),none⟩
                      (.early 1 ⟨some 104,(.mv (.t 2)),none⟩
                      (.early 1 ⟨some 105,(.call (.k (.fn (.func 47) [] [])) [(.t 97),(.t 103),(.t 104)]),none⟩
                      (.step 0 1 ⟨some 8,(.alloc [(I 0)]),none⟩
                      (.step 1 0 ⟨none,(.store 1 (.t 8) (.t 105)),none⟩
                      .done))))))))))))
                    (.keep [3,8] (.seq (.ops [⟨some 106,(.load true 2 (.t 3)),none⟩,⟨some 107,(.mkfn (.func 75) [] [(.t 3),(.t 8)]),none⟩,⟨some 108,(.call (.k (.fn (.func 23) [] [])) [(.t 106),(.t 107)]),none⟩,⟨some 6,(.mv (.t 108)),none⟩])
                    .ret)))
                    .skip))))))))))))))))))))
  (.seq (.ops [⟨some 110,(.load true 2 (.t 3)),none⟩,⟨some 111,(.load false 1 (.t 4)),none⟩,⟨some 112,(.mv (.t 2)),none⟩,⟨some 113,(.call (.k (.fn (.func 76) [] [])) [(.t 110),(.t 111),(.t 112)]),none⟩,⟨some 109,(.mv (.t 113)),none⟩,⟨some 114,(.ext (.t 109) 0),none⟩,⟨some 115,(.ext (.t 109) 1),none⟩,⟨some 9,(.mv (.t 114)),none⟩,⟨some 10,(.mv (.t 115)),none⟩])
  (.seq (.ops [⟨some 116,(.mv (.t 9)),none⟩,⟨some 6,(.mv (.t 116)),none⟩])
  .ret))))
def c47 : ICode := b47
theorem w47 : W x Q c47 ks fr H ms = W x Q b47 ks fr H ms := rfl
def r47 : List IRes := [(.tmp 6)]
theorem t47 : Try.f47.body.bind (trCode Try.prog Try.f47.ntmps) = some (strip c47) := by kernel_rfl
theorem q47 : trRes Try.prog Try.f47.results.toList = some r47 := by kernel_rfl
theorem fn47 : Try.prog.funcs[47]? = some Try.f47 := by kernel_rfl
theorem nn47 : (Try.f47.name == "runtime.NumGoroutine") = false := by kernel_rfl
theorem nt47 : Try.f47.ntmps = 117 := by kernel_rfl
abbrev b48 : ICode :=
  (.seq (.ops [⟨some 1,(.box (.t 0)),none⟩,⟨some 2,(.mv (.k (B false))),none⟩])
  (.seq (.ops [⟨some 4,(.fldA 0 (.t 1)),none⟩,⟨some 5,(.load false 1 (.t 4)),none⟩,⟨some 6,(.len (.t 5)),none⟩,⟨some 3,(.mv (.t 6)),none⟩])
  (.seq (.draw 0 [] (.early 0 ⟨some 7,(.mv (.t 3)),none⟩
    (.early 0 ⟨some 8,(.bin .geq (.t 7) (.k (I 1))),none⟩
    (.early 0 ⟨some 9,(.mv (.t 8)),none⟩
    (.early 0 ⟨some 10,(.mv (.t 3)),some (9,true)⟩
    (.early 0 ⟨some 11,(.bin .leq (.t 10) (.k (I 6))),some (9,true)⟩
    (.early 0 ⟨some 12,(.pick (.t 9) (.t 11) (.k (B false))),none⟩
    (.early 0 ⟨some 13,(.mv (.t 12)),none⟩
    (.early 1 ⟨some 14,(.fldA 1 (.t 1)),some (13,true)⟩
    (.early 1 ⟨some 15,(.load false 1 (.t 14)),some (13,true)⟩
    (.early 1 ⟨some 16,(.len (.t 15)),some (13,true)⟩
    (.early 1 ⟨some 17,(.mv (.t 3)),some (13,true)⟩
    (.early 0 ⟨some 18,(.bin .eql (.t 16) (.t 17)),some (13,true)⟩
    (.early 0 ⟨some 19,(.pick (.t 13) (.t 18) (.k (B false))),none⟩
    (.early 0 ⟨some 20,(.mv (.t 19)),none⟩
    (.early 0 ⟨some 21,(.fldA 0 (.t 1)),some (20,true)⟩
    (.early 0 ⟨some 22,(.load false 1 (.t 21)),some (20,true)⟩
    (.step 0 0 ⟨some 23,(.call (.k (.fn (.func 77) [] [])) [(.t 22)]),some (20,true)⟩
    (.early 0 ⟨some 24,(.bin .geq (.t 23) (.k (I 0))),some (20,true)⟩
    (.early 0 ⟨some 25,(.pick (.t 20) (.t 24) (.k (B false))),none⟩
    (.early 0 ⟨some 26,(.mv (.t 25)),none⟩
    (.early 1 ⟨some 27,(.fldA 0 (.t 1)),some (26,true)⟩
    (.early 1 ⟨some 28,(.load false 1 (.t 27)),some (26,true)⟩
    (.early 1 ⟨some 29,(.call (.k (.fn (.func 78) [] [])) [(.t 28)]),some (26,true)⟩
    (.early 1 ⟨some 30,(.mv (.t 3)),some (26,true)⟩
    (.early 1 ⟨some 31,(.bin .shl (.k (I 1)) (.t 30)),some (26,true)⟩
    (.early 0 ⟨some 32,(.bin .lss (.t 29) (.t 31)),some (26,true)⟩
    (.early 0 ⟨some 33,(.pick (.t 26) (.t 32) (.k (B false))),none⟩
    (.early 0 ⟨some 34,(.mv (.t 33)),none⟩
    (.early 0 ⟨some 35,(.fldA 1 (.t 1)),some (34,true)⟩
    (.early 0 ⟨some 36,(.load false 1 (.t 35)),some (34,true)⟩
    (.step 0 0 ⟨some 37,(.call (.k (.fn (.func 77) [] [])) [(.t 36)]),some (34,true)⟩
    (.early 0 ⟨some 38,(.bin .geq (.t 37) (.k (I 0))),some (34,true)⟩
    (.early 0 ⟨some 39,(.pick (.t 34) (.t 38) (.k (B false))),none⟩
    (.early 0 ⟨some 40,(.mv (.t 39)),none⟩
    (.early 0 ⟨some 41,(.fldA 1 (.t 1)),some (40,true)⟩
    (.early 0 ⟨some 42,(.load false 1 (.t 41)),some (40,true)⟩
    (.step 0 0 ⟨some 43,(.call (.k (.fn (.func 78) [] [])) [(.t 42)]),some (40,true)⟩
    (.early 0 ⟨some 44,(.bin .lss (.t 43) (.k (I 16))),some (40,true)⟩
    (.early 0 ⟨some 45,(.pick (.t 40) (.t 44) (.k (B false))),none⟩
    (.early 0 ⟨some 2,(.mv (.t 45)),none⟩
    .done)))))))))))))))))))))))))))))))))))))))))
  (.keep [2] .ret))))
def c48 : ICode := b48
theorem w48 : W x Q c48 ks fr H ms = W x Q b48 ks fr H ms := rfl
def r48 : List IRes := [(.tmp 2)]
theorem t48 : Try.f48.body.bind (trCode Try.prog Try.f48.ntmps) = some (strip c48) := by kernel_rfl
theorem q48 : trRes Try.prog Try.f48.results.toList = some r48 := by kernel_rfl
theorem fn48 : Try.prog.funcs[48]? = some Try.f48 := by kernel_rfl
theorem nn48 : (Try.f48.name == "runtime.NumGoroutine") = false := by kernel_rfl
theorem nt48 : Try.f48.ntmps = 46 := by kernel_rfl
abbrev b49 : ICode :=
  (.seq (.ops [⟨some 1,(.box (.t 0)),none⟩,⟨some 2,(.mv (.k (I 0))),none⟩])
  (.seq (.ops [⟨some 3,(.fldA 0 (.t 1)),none⟩,⟨some 4,(.load false 1 (.t 3)),none⟩,⟨some 5,(.len (.t 4)),none⟩,⟨some 6,(.bin .shl (.k (I 1)) (.t 5)),none⟩,⟨some 7,(.bin .sub (.t 6) (.k (I 1))),none⟩,⟨some 2,(.mv (.t 7)),none⟩])
  .ret))
def c49 : ICode := b49
theorem w49 : W x Q c49 ks fr H ms = W x Q b49 ks fr H ms := rfl
def r49 : List IRes := [(.tmp 2)]
theorem t49 : Try.f49.body.bind (trCode Try.prog Try.f49.ntmps) = some (strip c49) := by kernel_rfl
theorem q49 : trRes Try.prog Try.f49.results.toList = some r49 := by kernel_rfl
theorem fn49 : Try.prog.funcs[49]? = some Try.f49 := by kernel_rfl
theorem nn49 : (Try.f49.name == "runtime.NumGoroutine") = false := by kernel_rfl
theorem nt49 : Try.f49.ntmps = 8 := by kernel_rfl
abbrev b71 : ICode :=
  (.seq (.ops [⟨some 4,(.mv (.k (.val (.pointer none)))),none⟩])
  (.seq (.seq (.ops [⟨some 7,(.mv (.t 0)),none⟩,⟨some 8,(.lenStr (.t 7)),none⟩,⟨some 9,(.mv (.t 1)),none⟩,⟨some 10,(.bin .gtr (.t 8) (.t 9)),none⟩])
  (.cond (.t 10)
    (.seq (.ops [⟨some 4,(.mv (.k (.val (.pointer none)))),none⟩])
    .ret)
    .skip))
  (.seq (.ops [⟨some 11,(.mv (.t 0)),none⟩,⟨some 12,(.build [(.val (.string (.mk #[]))),(.val (.string (.mk #[])))] [(0,1,(.t 11))]),none⟩,⟨some 13,(.box (.t 12)),none⟩,⟨some 5,(.mv (.t 13)),none⟩])
  (.seq (.ops [⟨some 14,(.mv (.t 5)),none⟩,⟨some 15,(.call (.k (.fn (.func 97) [] [])) [(.t 14)]),none⟩,⟨some 6,(.mv (.t 15)),none⟩])
  (.seq (.seq (.ops [⟨some 16,(.mv (.t 5)),none⟩,⟨some 17,(.nilck (.t 16)),none⟩,⟨some 18,(.fldA 0 (.t 17)),none⟩,⟨some 19,(.load false 1 (.t 18)),none⟩,⟨some 20,(.eqs true (.t 19) (.k (.val (.string (.mk #[]))))),none⟩])
  (.cond (.t 20)
    (.seq (.ops [⟨some 4,(.mv (.k (.val (.pointer none)))),none⟩])
    .ret)
    .skip))
  (.seq (.ops [⟨some 21,(.mv (.t 6)),none⟩,⟨some 4,(.mv (.t 21)),none⟩])
  .ret))))))
def c71 : ICode := b71
theorem w71 : W x Q c71 ks fr H ms = W x Q b71 ks fr H ms := rfl
def r71 : List IRes := [(.tmp 4)]
theorem t71 : Try.f71.body.bind (trCode Try.prog Try.f71.ntmps) = some (strip c71) := by kernel_rfl
theorem q71 : trRes Try.prog Try.f71.results.toList = some r71 := by kernel_rfl
theorem fn71 : Try.prog.funcs[71]? = some Try.f71 := by kernel_rfl
theorem nn71 : (Try.f71.name == "runtime.NumGoroutine") = false := by kernel_rfl
theorem nt71 : Try.f71.ntmps = 22 := by kernel_rfl
abbrev b72 : ICode :=
  (.seq (.ops [⟨some 4,(.mv (.k (B false))),none⟩])
  (.seq (.draw 0 [] (.early 1 ⟨some 5,(.fldA 1 (.t 1)),none⟩
    (.early 1 ⟨some 6,(.load false 1 (.t 5)),none⟩
    (.early 1 ⟨some 7,(.mv (.t 0)),none⟩
    (.early 1 ⟨some 8,(.ixS 1 (.t 6) (.t 7)),none⟩
    (.early 1 ⟨some 9,(.load false 1 (.t 8)),none⟩
    (.early 1 ⟨some 10,(.load false 1 (.t 2)),none⟩
    (.early 1 ⟨some 11,(.nilck (.t 10)),none⟩
    (.early 1 ⟨some 12,(.fldA 1 (.t 11)),none⟩
    (.early 1 ⟨some 13,(.load false 1 (.t 12)),none⟩
    (.early 0 ⟨some 14,(.bin .shr (.t 9) (.t 13)),none⟩
    (.early 0 ⟨some 15,(.bin .and (.t 14) (.k (I 1))),none⟩
    (.early 0 ⟨some 16,(.bin .eql (.t 15) (.k (I 1))),none⟩
    (.early 0 ⟨some 4,(.mv (.t 16)),none⟩
    .done))))))))))))))
  (.keep [4] .ret)))
def c72 : ICode := b72
theorem w72 : W x Q c72 ks fr H ms = W x Q b72 ks fr H ms := rfl
def r72 : List IRes := [(.tmp 4)]
theorem t72 : Try.f72.body.bind (trCode Try.prog Try.f72.ntmps) = some (strip c72) := by kernel_rfl
theorem q72 : trRes Try.prog Try.f72.results.toList = some r72 := by kernel_rfl
theorem fn72 : Try.prog.funcs[72]? = some Try.f72 := by kernel_rfl
theorem nn72 : (Try.f72.name == "runtime.NumGoroutine") = false := by kernel_rfl
theorem nt72 : Try.f72.ntmps = 17 := by kernel_rfl
abbrev b77T1 : ICode :=
  (.keep [3] (.seq (.ops [⟨some 24,(.mv (.t 3)),none⟩,⟨some 2,(.mv (.t 24)),none⟩])
  .ret))
def c77T1 : ICode := b77T1
theorem w77T1 : W x Q c77T1 ks fr H ms = W x Q b77T1 ks fr H ms := rfl
/- live: [0,3,4] -/
abbrev b77L0 : ICode :=
  (.seq (.seq (.ops [⟨some 12,(.mv (.t 4)),none⟩,⟨some 13,(.mv (.t 0)),none⟩,⟨some 14,(.len (.t 13)),none⟩,⟨some 15,(.bin .lss (.t 12) (.t 14)),none⟩])
  (.cond (.t 15)
    .skip
    (.exit 0)))
  (.seq (.block 1 (.ops [⟨some 18,(.mv (.t 3)),none⟩,⟨some 19,(.mv (.t 0)),none⟩,⟨some 20,(.mv (.t 4)),none⟩,⟨some 21,(.ixS 1 (.t 19) (.t 20)),none⟩,⟨some 22,(.load false 1 (.t 21)),none⟩,⟨some 23,(.mn (.t 18) (.t 22)),none⟩,⟨some 3,(.mv (.t 23)),none⟩]))
  (.ops [⟨some 16,(.mv (.t 4)),none⟩,⟨some 17,(.bin .add (.t 16) (.k (I 1))),none⟩,⟨some 4,(.mv (.t 17)),none⟩])))
def c77L0 : ICode := b77L0
theorem w77L0 : W x Q c77L0 ks fr H ms = W x Q b77L0 ks fr H ms := rfl
abbrev b77 : ICode :=
  (.seq (.ops [⟨some 2,(.mv (.k (I 0))),none⟩])
  (.seq (.seq (.ops [⟨some 5,(.mv (.t 0)),none⟩,⟨some 6,(.len (.t 5)),none⟩,⟨some 7,(.bin .lss (.t 6) (.k (I 1))),none⟩])
  (.cond (.t 7)
    .no
    .skip))
  (.seq (.ops [⟨some 9,(.mv (.t 0)),none⟩,⟨some 10,(.ixS 1 (.t 9) (.k (I 0))),none⟩,⟨some 11,(.load false 1 (.t 10)),none⟩,⟨some 3,(.mv (.t 11)),none⟩])
  (.seq (.seq (.ops [⟨some 4,(.mv (.k (I 1))),none⟩])
  (.block 0 (.loop c77L0)))
  c77T1))))
def c77 : ICode := b77
theorem w77 : W x Q c77 ks fr H ms = W x Q b77 ks fr H ms := rfl
def r77 : List IRes := [(.tmp 2)]
theorem t77 : Try.f77.body.bind (trCode Try.prog Try.f77.ntmps) = some (strip c77) := by kernel_rfl
theorem q77 : trRes Try.prog Try.f77.results.toList = some r77 := by kernel_rfl
theorem fn77 : Try.prog.funcs[77]? = some Try.f77 := by kernel_rfl
theorem nn77 : (Try.f77.name == "runtime.NumGoroutine") = false := by kernel_rfl
theorem nt77 : Try.f77.ntmps = 25 := by kernel_rfl
abbrev b78T1 : ICode :=
  (.keep [3] (.seq (.ops [⟨some 24,(.mv (.t 3)),none⟩,⟨some 2,(.mv (.t 24)),none⟩])
  .ret))
def c78T1 : ICode := b78T1
theorem w78T1 : W x Q c78T1 ks fr H ms = W x Q b78T1 ks fr H ms := rfl
/- live: [0,3,4] -/
abbrev b78L0 : ICode :=
  (.seq (.seq (.ops [⟨some 12,(.mv (.t 4)),none⟩,⟨some 13,(.mv (.t 0)),none⟩,⟨some 14,(.len (.t 13)),none⟩,⟨some 15,(.bin .lss (.t 12) (.t 14)),none⟩])
  (.cond (.t 15)
    .skip
    (.exit 0)))
  (.seq (.block 1 (.ops [⟨some 18,(.mv (.t 3)),none⟩,⟨some 19,(.mv (.t 0)),none⟩,⟨some 20,(.mv (.t 4)),none⟩,⟨some 21,(.ixS 1 (.t 19) (.t 20)),none⟩,⟨some 22,(.load false 1 (.t 21)),none⟩,⟨some 23,(.mx (.t 18) (.t 22)),none⟩,⟨some 3,(.mv (.t 23)),none⟩]))
  (.ops [⟨some 16,(.mv (.t 4)),none⟩,⟨some 17,(.bin .add (.t 16) (.k (I 1))),none⟩,⟨some 4,(.mv (.t 17)),none⟩])))
def c78L0 : ICode := b78L0
theorem w78L0 : W x Q c78L0 ks fr H ms = W x Q b78L0 ks fr H ms := rfl
abbrev b78 : ICode :=
  (.seq (.ops [⟨some 2,(.mv (.k (I 0))),none⟩])
  (.seq (.seq (.ops [⟨some 5,(.mv (.t 0)),none⟩,⟨some 6,(.len (.t 5)),none⟩,⟨some 7,(.bin .lss (.t 6) (.k (I 1))),none⟩])
  (.cond (.t 7)
    .no
    .skip))
  (.seq (.ops [⟨some 9,(.mv (.t 0)),none⟩,⟨some 10,(.ixS 1 (.t 9) (.k (I 0))),none⟩,⟨some 11,(.load false 1 (.t 10)),none⟩,⟨some 3,(.mv (.t 11)),none⟩])
  (.seq (.seq (.ops [⟨some 4,(.mv (.k (I 1))),none⟩])
  (.block 0 (.loop c78L0)))
  c78T1))))
def c78 : ICode := b78
theorem w78 : W x Q c78 ks fr H ms = W x Q b78 ks fr H ms := rfl
def r78 : List IRes := [(.tmp 2)]
theorem t78 : Try.f78.body.bind (trCode Try.prog Try.f78.ntmps) = some (strip c78) := by kernel_rfl
theorem q78 : trRes Try.prog Try.f78.results.toList = some r78 := by kernel_rfl
theorem fn78 : Try.prog.funcs[78]? = some Try.f78 := by kernel_rfl
theorem nn78 : (Try.f78.name == "runtime.NumGoroutine") = false := by kernel_rfl
theorem nt78 : Try.f78.ntmps = 25 := by kernel_rfl
abbrev b97T1 : ICode :=
  (.keep [6] (.seq (.ops [⟨some 90,(.mv (.t 6)),none⟩,⟨some 2,(.mv (.t 90)),none⟩])
  .ret))
def c97T1 : ICode := b97T1
/- live: [0,6,72,73] -/
abbrev b97L0 : ICode :=
  (.seq (.ops [⟨some 74,(.bin .lss (.t 73) (.t 72)),none⟩])
  (.seq (.cond (.t 74)
    .skip
    (.exit 1))
  (.seq (.block 2 (.seq (.ops [⟨some 75,(.mv (.t 0)),none⟩,⟨some 76,(.call (.k (.fn (.func 97) [] [])) [(.t 75)]),none⟩,⟨some 7,(.mv (.t 76)),none⟩])
  (.seq (.seq (.ops [⟨some 77,(.mv (.t 7)),none⟩,⟨some 78,(.eqp false (.t 77)),none⟩])
  (.cond (.t 78)
    (.seq (.ops [⟨some 2,(.mv (.k (.val (.pointer none)))),none⟩])
    .ret)
    .skip))
  (.ops [⟨some 79,(.mv (.t 6)),none⟩,⟨some 80,(.mv (.t 6)),none⟩,⟨some 81,(.nilck (.t 80)),none⟩,⟨some 82,(.fldA 3 (.t 81)),none⟩,⟨some 83,(.load false 1 (.t 82)),none⟩,⟨some 84,(.mv (.t 7)),none⟩,⟨some 85,(.bslice 1 1 [(.val (.pointer none))] [(0,1,(.t 84))]),none⟩,⟨some 86,(.append 1 8 (.t 83) (.t 85)),none⟩,⟨some 87,(.nilck (.t 79)),none⟩,⟨some 88,(.fldA 3 (.t 87)),none⟩,⟨none,(.store 1 (.t 88) (.t 86)),none⟩]))))
  (.ops [⟨some 89,(.bin .add (.t 73) (.k (I 1))),none⟩,⟨some 73,(.mv (.t 89)),none⟩]))))
def c97L0 : ICode := b97L0
abbrev b97 : ICode :=
  (.seq (.ops [⟨some 2,(.mv (.k (.val (.pointer none)))),none⟩])
  (.seq (.ops [⟨some 8,(.mv (.t 0)),none⟩,⟨some 9,(.call (.k (.fn (.func 119) [] [])) [(.t 8)]),none⟩,⟨some 3,(.mv (.t 9)),none⟩])
  (.seq (.block 0 (.seq (.ops [⟨some 11,(.mv (.t 3)),none⟩,⟨some 12,(.call (.k (.fn (.func 120) [] [])) [(.t 11)]),none⟩,⟨some 10,(.mv (.t 12)),none⟩])
  (.cond (.t 10)
    (.seq (.ops [⟨some 13,(.mv (.t 3)),none⟩,⟨some 14,(.bin .sub (.t 13) (.k (.val (.int .u8 48)))),none⟩,⟨some 15,(.conv .i64 (.t 14)),none⟩,⟨some 16,(.build [(.val (.int .u8 0)),(I 0),(.val (.int .u8 0)),nilSl] [(0,1,(.k (.val (.int .u8 48)))),(1,1,(.t 15))]),none⟩,⟨some 17,(.box (.t 16)),none⟩,⟨some 2,(.mv (.t 17)),none⟩])
    .ret)
    (.seq (.ops [⟨some 19,(.mv (.t 3)),none⟩,⟨some 20,(.bin .eql (.t 19) (.k (.val (.int .u8 45)))),none⟩,⟨some 18,(.mv (.t 20)),none⟩])
    (.cond (.t 18)
      (.seq (.seq (.ops [⟨some 21,(.mv (.t 0)),none⟩,⟨some 22,(.call (.k (.fn (.func 119) [] [])) [(.t 21)]),none⟩,⟨some 4,(.mv (.t 22)),none⟩])
      (.seq (.ops [⟨some 23,(.mv (.t 4)),none⟩,⟨some 24,(.call (.k (.fn (.func 120) [] [])) [(.t 23)]),none⟩])
      (.cond (.t 24)
        (.seq (.ops [⟨some 25,(.mv (.t 4)),none⟩,⟨some 26,(.bin .sub (.t 25) (.k (.val (.int .u8 48)))),none⟩,⟨some 27,(.conv .i64 (.t 26)),none⟩,⟨some 28,(.build [(.val (.int .u8 0)),(I 0),(.val (.int .u8 0)),nilSl] [(0,1,(.k (.val (.int .u8 45)))),(1,1,(.t 27))]),none⟩,⟨some 29,(.box (.t 28)),none⟩,⟨some 2,(.mv (.t 29)),none⟩])
        .ret)
        .skip)))
      (.seq (.ops [⟨some 2,(.mv (.k (.val (.pointer none)))),none⟩])
      .ret))
      (.seq (.ops [⟨some 31,(.mv (.t 3)),none⟩,⟨some 32,(.bin .eql (.t 31) (.k (.val (.int .u8 116)))),none⟩,⟨some 33,(.mv (.t 32)),none⟩,⟨some 34,(.mv (.t 3)),some (33,false)⟩,⟨some 35,(.bin .eql (.t 34) (.k (.val (.int .u8 102)))),some (33,false)⟩,⟨some 36,(.pick (.t 33) (.k (B true)) (.t 35)),none⟩,⟨some 30,(.mv (.t 36)),none⟩])
      (.cond (.t 30)
        (.seq (.ops [⟨some 37,(.mv (.t 3)),none⟩,⟨some 38,(.build [(.val (.int .u8 0)),(I 0),(.val (.int .u8 0)),nilSl] [(0,1,(.t 37))]),none⟩,⟨some 39,(.box (.t 38)),none⟩,⟨some 2,(.mv (.t 39)),none⟩])
        .ret)
        (.seq (.ops [⟨some 41,(.mv (.t 3)),none⟩,⟨some 42,(.call (.k (.fn (.func 121) [] [])) [(.t 41)]),none⟩,⟨some 40,(.mv (.t 42)),none⟩])
        (.cond (.t 40)
          (.seq (.seq (.ops [⟨some 43,(.mv (.t 0)),none⟩,⟨some 44,(.nilck (.t 43)),none⟩,⟨some 45,(.fldA 1 (.t 44)),none⟩,⟨some 46,(.load false 1 (.t 45)),none⟩,⟨some 47,(.mv (.t 3)),none⟩,⟨some 48,(.call (.k (.fn (.func 122) [] [])) [(.t 46),(.t 47)]),none⟩,⟨some 49,(.bin .lss (.t 48) (.k (I 0))),none⟩])
          (.cond (.t 49)
            (.seq (.ops [⟨some 2,(.mv (.k (.val (.pointer none)))),none⟩])
            .ret)
            .skip))
          (.seq (.ops [⟨some 50,(.mv (.t 3)),none⟩,⟨some 51,(.build [(.val (.int .u8 0)),(I 0),(.val (.int .u8 0)),nilSl] [(0,1,(.k (.val (.int .u8 120)))),(2,1,(.t 50))]),none⟩,⟨some 52,(.box (.t 51)),none⟩,⟨some 2,(.mv (.t 52)),none⟩])
          .ret))
          (.seq (.ops [⟨some 54,(.mv (.t 3)),none⟩,⟨some 55,(.bin .eql (.t 54) (.k (.val (.int .u8 109)))),none⟩,⟨some 56,(.mv (.t 55)),none⟩,⟨some 57,(.mv (.t 3)),some (56,false)⟩,⟨some 58,(.bin .eql (.t 57) (.k (.val (.int .u8 103)))),some (56,false)⟩,⟨some 59,(.pick (.t 56) (.k (B true)) (.t 58)),none⟩,⟨some 53,(.mv (.t 59)),none⟩])
          (.cond (.t 53)
            (.seq (.ops [⟨some 60,(.mv (.t 0)),none⟩,⟨some 61,(.mv (.t 3)),none⟩,⟨some 62,(.call (.k (.fn (.func 123) [] [])) [(.t 60),(.t 61)]),none⟩,⟨some 2,(.mv (.t 62)),none⟩])
            .ret)
            .skip)))))))))))
  (.seq .no
  (.seq (.seq (.ops [⟨some 67,(.mv (.t 5)),none⟩,⟨some 68,(.bin .eql (.t 67) (.k (I 0))),none⟩])
  (.cond (.t 68)
    (.seq (.ops [⟨some 2,(.mv (.k (.val (.pointer none)))),none⟩])
    .ret)
    .skip))
  (.seq (.ops [⟨some 69,(.mv (.t 3)),none⟩,⟨some 70,(.build [(.val (.int .u8 0)),(I 0),(.val (.int .u8 0)),nilSl] [(0,1,(.t 69))]),none⟩,⟨some 71,(.box (.t 70)),none⟩,⟨some 6,(.mv (.t 71)),none⟩])
  (.seq (.seq (.ops [⟨some 72,(.mv (.t 5)),none⟩,⟨some 73,(.mv (.k (I 0))),none⟩])
  (.block 1 (.loop c97L0)))
  c97T1)))))))
def c97 : ICode := b97
theorem w97 : W x Q c97 ks fr H ms = W x Q b97 ks fr H ms := rfl
def r97 : List IRes := [(.tmp 2)]
theorem t97 : Try.f97.body.bind (trCode Try.prog Try.f97.ntmps) = some (strip c97) := by kernel_rfl
theorem q97 : trRes Try.prog Try.f97.results.toList = some r97 := by kernel_rfl
theorem fn97 : Try.prog.funcs[97]? = some Try.f97 := by kernel_rfl
theorem nn97 : (Try.f97.name == "runtime.NumGoroutine") = false := by kernel_rfl
theorem nt97 : Try.f97.ntmps = 91 := by kernel_rfl
abbrev b119 : ICode :=
  (.seq (.ops [⟨some 2,(.mv (.k (.val (.int .u8 0)))),none⟩])
  (.seq (.seq (.ops [⟨some 4,(.mv (.t 0)),none⟩,⟨some 5,(.nilck (.t 4)),none⟩,⟨some 6,(.fldA 0 (.t 5)),none⟩,⟨some 7,(.load false 1 (.t 6)),none⟩,⟨some 8,(.eqs false (.t 7) (.k (.val (.string (.mk #[]))))),none⟩])
  (.cond (.t 8)
    (.seq (.ops [⟨some 2,(.mv (.k (.val (.int .u8 0)))),none⟩])
    .ret)
    .skip))
  (.seq (.ops [⟨some 9,(.mv (.t 0)),none⟩,⟨some 10,(.nilck (.t 9)),none⟩,⟨some 11,(.fldA 0 (.t 10)),none⟩,⟨some 12,(.load false 1 (.t 11)),none⟩,⟨some 13,(.ixStr (.t 12) (.k (I 0))),none⟩,⟨some 3,(.mv (.t 13)),none⟩])
  (.seq (.ops [⟨some 14,(.mv (.t 0)),none⟩,⟨some 15,(.mv (.t 0)),none⟩,⟨some 16,(.nilck (.t 15)),none⟩,⟨some 17,(.fldA 0 (.t 16)),none⟩,⟨some 18,(.load false 1 (.t 17)),none⟩,⟨some 19,(.slT (.t 18) (some (.k (I 1))) none),none⟩,⟨some 20,(.nilck (.t 14)),none⟩,⟨some 21,(.fldA 0 (.t 20)),none⟩,⟨none,(.store 1 (.t 21) (.t 19)),none⟩])
  (.seq (.ops [⟨some 22,(.mv (.t 3)),none⟩,⟨some 2,(.mv (.t 22)),none⟩])
  .ret)))))
def c119 : ICode := b119
theorem w119 : W x Q c119 ks fr H ms = W x Q b119 ks fr H ms := rfl
def r119 : List IRes := [(.tmp 2)]
theorem t119 : Try.f119.body.bind (trCode Try.prog Try.f119.ntmps) = some (strip c119) := by kernel_rfl
theorem q119 : trRes Try.prog Try.f119.results.toList = some r119 := by kernel_rfl
theorem fn119 : Try.prog.funcs[119]? = some Try.f119 := by kernel_rfl
theorem nn119 : (Try.f119.name == "runtime.NumGoroutine") = false := by kernel_rfl
theorem nt119 : Try.f119.ntmps = 23 := by kernel_rfl
abbrev b120 : ICode :=
  (.seq (.ops [⟨some 2,(.mv (.k (B false))),none⟩])
  (.seq (.ops [⟨some 3,(.mv (.t 0)),none⟩,⟨some 4,(.bin .geq (.t 3) (.k (.val (.int .u8 48)))),none⟩,⟨some 5,(.mv (.t 4)),none⟩,⟨some 6,(.mv (.t 0)),some (5,true)⟩,⟨some 7,(.bin .leq (.t 6) (.k (.val (.int .u8 51)))),some (5,true)⟩,⟨some 8,(.pick (.t 5) (.t 7) (.k (B false))),none⟩,⟨some 2,(.mv (.t 8)),none⟩])
  .ret))
def c120 : ICode := b120
theorem w120 : W x Q c120 ks fr H ms = W x Q b120 ks fr H ms := rfl
def r120 : List IRes := [(.tmp 2)]
theorem t120 : Try.f120.body.bind (trCode Try.prog Try.f120.ntmps) = some (strip c120) := by kernel_rfl
theorem q120 : trRes Try.prog Try.f120.results.toList = some r120 := by kernel_rfl
theorem fn120 : Try.prog.funcs[120]? = some Try.f120 := by kernel_rfl
theorem nn120 : (Try.f120.name == "runtime.NumGoroutine") = false := by kernel_rfl
theorem nt120 : Try.f120.ntmps = 9 := by kernel_rfl
end Go.Proofs.Ytlonaefihjdkpaa
