/- The code of some functions of the program,cleaned: printed by a program of mine,checked here. -/
import Derived.Test.YtlonaefihjdkpaaProg
import Derived.Test.YtlonaefihjdkpaaAS
import Derived.Test.YtlonaefihjdkpaaVC
import Derived.KernelRfl
namespace Go.Proofs.Ytlonaefihjdkpaa
open Go.Abs AVal
variable {x : Cx} {Q : QT} {ks : List Kont} {fr : Fr} {H : AHeap} {ms : List Nat}
abbrev b3T5 : ICode :=
  (.keep [] (.seq (.ops [⟨some 114,(.call (.k (.fn (.func 9) [] [])) []),none⟩,⟨some 2,(.mv (.t 114)),none⟩])
  .ret))
def c3T5 : ICode := b3T5
theorem w3T5 : W x Q c3T5 ks fr H ms = W x Q b3T5 ks fr H ms := rfl
/- live: [6,8,76,77,78] -/
abbrev b3L4 : ICode :=
  (.seq (.ops [⟨some 79,(.bin .lss (.t 78) (.t 77)),none⟩])
  (.seq (.cond (.t 79)
    .skip
    (.exit 4))
  (.seq (.block 5 (.seq (.ops [⟨some 80,(.mv (.t 78)),none⟩,⟨some 81,(.ixS 1 (.t 76) (.t 78)),none⟩,⟨some 82,(.load false 1 (.t 81)),none⟩,⟨some 11,(.mv (.t 80)),none⟩,⟨some 12,(.mv (.t 82)),none⟩])
  (.seq (.draw 0 [] (.early 1 ⟨some 84,(.fldA 0 (.t 8)),none⟩
    (.early 1 ⟨some 85,(.load false 1 (.t 84)),none⟩
    (.early 1 ⟨some 86,(.call (.k (.fn (.func 6) [] [])) [(.t 85)]),none⟩
    (.early 1 ⟨some 87,(.fldA 1 (.t 8)),none⟩
    (.early 1 ⟨some 88,(.load false 1 (.t 87)),none⟩
    (.early 1 ⟨some 89,(.call (.k (.fn (.func 6) [] [])) [(.t 88)]),none⟩
    (.early 1 ⟨some 90,(.build [nilSl,nilSl] [(0,1,(.t 86)),(1,1,(.t 89))]),none⟩
    (.early 1 ⟨some 91,(.mv (.t 11)),none⟩
    (.early 1 ⟨some 92,(.bin .shl (.k (I 1)) (.t 91)),none⟩
    (.step 0 0 ⟨some 93,(.call (.k (.fn (.func 10) [] [])) [(.t 90),(.t 92)]),none⟩
    (.early 0 ⟨some 83,(.mv (.t 93)),none⟩
    (.early 1 ⟨some 94,(.ext (.t 83) 0),none⟩
    (.early 1 ⟨some 95,(.ext (.t 83) 1),none⟩
    (.early 1 ⟨some 13,(.mv (.t 94)),none⟩
    (.early 0 ⟨some 14,(.mv (.t 95)),none⟩
    .done))))))))))))))))
  (.keep [6,8,11,12,13,14,76,77,78] (.seq (.draw 0 [] (.early 0 ⟨some 96,(.mv (.t 14)),none⟩
    (.early 0 ⟨some 97,(.bin .neq (.t 96) (.k (I 0))),none⟩
    (.early 0 ⟨some 98,(.mv (.t 97)),none⟩
    (.early 1 ⟨some 99,(.mv (.t 6)),some (98,false)⟩
    (.early 1 ⟨some 100,(.mv (.t 11)),some (98,false)⟩
    (.early 1 ⟨some 101,(.ixS 1 (.t 99) (.t 100)),some (98,false)⟩
    (.early 1 ⟨some 102,(.load false 1 (.t 101)),some (98,false)⟩
    (.early 1 ⟨some 103,(.bin .eql (.t 102) (.k (I 1))),some (98,false)⟩
    (.early 1 ⟨some 104,(.mv (.t 13)),some (98,false)⟩
    (.early 1 ⟨some 105,(.mv (.t 12)),some (98,false)⟩
    (.early 1 ⟨some 106,(.ixS 1 (.t 105) (.k (I 0))),some (98,false)⟩
    (.early 1 ⟨some 107,(.load false 1 (.t 106)),some (98,false)⟩
    (.early 1 ⟨some 108,(.bin .shr (.t 104) (.t 107)),some (98,false)⟩
    (.early 1 ⟨some 109,(.bin .and (.t 108) (.k (I 1))),some (98,false)⟩
    (.early 1 ⟨some 110,(.bin .eql (.t 109) (.k (I 1))),some (98,false)⟩
    (.early 0 ⟨some 111,(.eqb true (.t 103) (.t 110)),some (98,false)⟩
    (.early 0 ⟨some 112,(.pick (.t 98) (.k (B true)) (.t 111)),none⟩
    .done))))))))))))))))))
  (.keep [6,8,76,77,78,112] (.cond (.t 112)
    (.seq (.ops [⟨some 2,(.mv (.k (B false))),none⟩])
    .ret)
    .skip)))))))
  (.ops [⟨some 113,(.bin .add (.t 78) (.k (I 1))),none⟩,⟨some 78,(.mv (.t 113)),none⟩]))))
def c3L4 : ICode := b3L4
theorem w3L4 : W x Q c3L4 ks fr H ms = W x Q b3L4 ks fr H ms := rfl
abbrev b3T3 : ICode :=
  (.keep [0,6,8] (.seq (.seq (.ops [⟨some 71,(.mv (.t 6)),none⟩,⟨some 72,(.len (.t 71)),none⟩,⟨some 73,(.mv (.t 0)),none⟩,⟨some 74,(.len (.t 73)),none⟩,⟨some 75,(.bin .neq (.t 72) (.t 74)),none⟩])
  (.cond (.t 75)
    (.seq (.ops [⟨some 2,(.mv (.k (B false))),none⟩])
    .ret)
    .skip))
  (.seq (.seq (.ops [⟨some 76,(.mv (.t 0)),none⟩,⟨some 77,(.len (.t 76)),none⟩,⟨some 78,(.mv (.k (I 0))),none⟩])
  (.block 4 (.loop c3L4)))
  c3T5)))
def c3T3 : ICode := b3T3
theorem w3T3 : W x Q c3T3 ks fr H ms = W x Q b3T3 ks fr H ms := rfl
/- live: [0,6,8,55,56,57] -/
abbrev b3L2 : ICode :=
  (.seq (.ops [⟨some 58,(.bin .lss (.t 57) (.t 56)),none⟩])
  (.seq (.cond (.t 58)
    .skip
    (.exit 2))
  (.seq (.block 3 (.seq (.ops [⟨some 59,(.ixS 1 (.t 55) (.t 57)),none⟩,⟨some 60,(.load false 1 (.t 59)),none⟩,⟨some 10,(.mv (.t 60)),none⟩])
  (.draw 2 [] (.early 1 ⟨some 61,(.fldA 0 (.t 8)),none⟩
    (.early 1 ⟨some 62,(.load false 1 (.t 61)),none⟩
    (.early 1 ⟨some 63,(.mv (.t 10)),none⟩
    (.early 1 ⟨some 64,(.ixS 1 (.t 63) (.k (I 0))),none⟩
    (.early 1 ⟨some 65,(.load false 1 (.t 64)),none⟩
    (.early 1 ⟨some 66,(.bin .shl (.k (I 1)) (.t 65)),none⟩
    (.step 0 1 ⟨some 67,(.bslice 1 1 [(I 0)] [(0,1,(.t 66))]),none⟩
    (.step 1 0 ⟨some 68,(.append 1 8 (.t 62) (.t 67)),none⟩
    (.early 0 ⟨some 69,(.fldA 0 (.t 8)),none⟩
    (.step 2 0 ⟨none,(.store 1 (.t 69) (.t 68)),none⟩
    .done)))))))))))))
  (.ops [⟨some 70,(.bin .add (.t 57) (.k (I 1))),none⟩,⟨some 57,(.mv (.t 70)),none⟩]))))
def c3L2 : ICode := b3L2
theorem w3L2 : W x Q c3L2 ks fr H ms = W x Q b3L2 ks fr H ms := rfl
abbrev b3T1 : ICode :=
  (.view (.keep [0,3] (.seq (.ops [⟨some 35,(.mv (.t 3)),none⟩,⟨some 36,(.call (.k (.fn (.func 7) [] [])) [(.t 35)]),none⟩,⟨some 34,(.mv (.t 36)),none⟩,⟨some 37,(.ext (.t 34) 0),none⟩,⟨some 38,(.ext (.t 34) 1),none⟩,⟨some 6,(.mv (.t 37)),none⟩,⟨some 7,(.mv (.t 38)),none⟩])
  (.seq (.seq (.ops [⟨some 39,(.mv (.t 7)),none⟩,⟨some 40,(.bin .neq (.t 39) (.k (I 0))),none⟩,⟨some 41,(.mv (.t 40)),none⟩,⟨some 42,(.mv (.t 0)),some (41,false)⟩,⟨some 43,(.call (.k (.fn (.func 8) [] [])) [(.t 42)]),some (41,false)⟩,⟨some 44,(.un .not (.t 43)),some (41,false)⟩,⟨some 45,(.pick (.t 41) (.k (B true)) (.t 44)),none⟩])
  (.cond (.t 45)
    (.seq (.ops [⟨some 46,(.mv (.t 7)),none⟩,⟨some 47,(.bin .eql (.t 46) (.k (I 2))),none⟩,⟨some 48,(.mv (.t 47)),none⟩,⟨some 49,(.call (.k (.fn (.func 9) [] [])) []),some (48,true)⟩,⟨some 50,(.pick (.t 48) (.t 49) (.k (B false))),none⟩,⟨some 2,(.mv (.t 50)),none⟩])
    .ret)
    .skip))
  (.seq (.ops [⟨some 51,(.mv (.t 0)),none⟩,⟨some 52,(.len (.t 51)),none⟩,⟨some 53,(.mksl 1 8 [(I 0)] (.t 52) (.t 52)),none⟩,⟨some 54,(.build [nilSl,nilSl] [(1,1,(.t 53))]),none⟩,⟨some 8,(.alloc [nilSl,nilSl]),none⟩,⟨none,(.store 2 (.t 8) (.t 54)),none⟩])
  (.seq (.seq (.ops [⟨some 55,(.mv (.t 0)),none⟩,⟨some 56,(.len (.t 55)),none⟩,⟨some 57,(.mv (.k (I 0))),none⟩])
  (.block 2 (.loop c3L2)))
  c3T3))))))
def c3T1 : ICode := b3T1
theorem w3T1 : W x Q c3T1 ks fr H ms = W x Q b3T1 ks fr H ms := rfl
/- live: [0,3,15,16,17] -/
abbrev b3L0 : ICode :=
  (.seq (.ops [⟨some 18,(.bin .lss (.t 17) (.t 16)),none⟩])
  (.seq (.cond (.t 18)
    .skip
    (.exit 0))
  (.seq (.block 1 (.seq (.ops [⟨some 19,(.mv (.t 17)),none⟩,⟨some 20,(.ixS 1 (.t 15) (.t 17)),none⟩,⟨some 21,(.load false 1 (.t 20)),none⟩,⟨some 4,(.mv (.t 19)),none⟩,⟨some 5,(.mv (.t 21)),none⟩])
  (.seq (.ops [⟨some 22,(.mv (.t 4)),none⟩,⟨some 23,(.bin .lss (.t 22) (.k (I 9))),none⟩])
  (.cond (.t 23)
    (.ops [⟨some 24,(.mv (.t 3)),none⟩,⟨some 25,(.mv (.t 5)),none⟩,⟨some 26,(.mv (.t 5)),none⟩,⟨some 27,(.len (.t 26)),none⟩,⟨some 28,(.mn (.t 27) (.k (I 9))),none⟩,⟨some 29,(.slS 1 (.t 25) none (some (.t 28)) none),none⟩,⟨some 30,(.call (.k (.fn (.func 6) [] [])) [(.t 29)]),none⟩,⟨some 31,(.bslice 1 1 [nilSl] [(0,1,(.t 30))]),none⟩,⟨some 32,(.append 1 24 (.t 24) (.t 31)),none⟩,⟨some 3,(.mv (.t 32)),none⟩])
    .skip))))
  (.ops [⟨some 33,(.bin .add (.t 17) (.k (I 1))),none⟩,⟨some 17,(.mv (.t 33)),none⟩]))))
def c3L0 : ICode := b3L0
theorem w3L0 : W x Q c3L0 ks fr H ms = W x Q b3L0 ks fr H ms := rfl
abbrev b3 : ICode :=
  (.seq (.ops [⟨some 2,(.mv (.k (B false))),none⟩])
  (.seq (.ops [⟨some 3,(.mv (.k nilSl)),none⟩])
  (.seq (.seq (.ops [⟨some 15,(.mv (.t 0)),none⟩,⟨some 16,(.len (.t 15)),none⟩,⟨some 17,(.mv (.k (I 0))),none⟩])
  (.block 0 (.loop c3L0)))
  c3T1)))
def c3 : ICode := b3
theorem w3 : W x Q c3 ks fr H ms = W x Q b3 ks fr H ms := rfl
def r3 : List IRes := [(.tmp 2)]
theorem t3 : Try.f3.body.bind (trCode Try.prog Try.f3.ntmps) = some (strip c3) := by kernel_rfl
theorem q3 : trRes Try.prog Try.f3.results.toList = some r3 := by kernel_rfl
theorem fn3 : Try.prog.funcs[3]? = some Try.f3 := by kernel_rfl
theorem nn3 : (Try.f3.name == "runtime.NumGoroutine") = false := by kernel_rfl
theorem nt3 : Try.f3.ntmps = 115 := by kernel_rfl
end Go.Proofs.Ytlonaefihjdkpaa
