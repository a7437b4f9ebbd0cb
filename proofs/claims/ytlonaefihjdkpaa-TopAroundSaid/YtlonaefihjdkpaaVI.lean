/- The code of some functions of the program,cleaned: printed by a program of mine,checked here. -/
import Derived.Test.YtlonaefihjdkpaaProg
import Derived.Test.YtlonaefihjdkpaaAS
import Derived.Test.YtlonaefihjdkpaaVC
import Derived.KernelRfl
namespace Go.Proofs.Ytlonaefihjdkpaa
open Go.Abs AVal
variable {x : Cx} {Q : QT} {ks : List Kont} {fr : Fr} {H : AHeap} {ms : List Nat}
abbrev b4T3 : ICode :=
  (.keep [] (.seq (.ops [⟨some 119,(.call (.k (.fn (.func 9) [] [])) []),none⟩,⟨some 2,(.mv (.t 119)),none⟩])
  .ret))
def c4T3 : ICode := b4T3
theorem w4T3 : W x Q c4T3 ks fr H ms = W x Q b4T3 ks fr H ms := rfl
abbrev b4T2 : ICode :=
  (.keep [0,6,90,91,92] (.ops [⟨some 118,(.bin .add (.t 92) (.k (I 1))),none⟩,⟨some 92,(.mv (.t 118)),none⟩]))
def c4T2 : ICode := b4T2
theorem w4T2 : W x Q c4T2 ks fr H ms = W x Q b4T2 ks fr H ms := rfl
/- live: [0,6,90,91,92,96,97,98] -/
abbrev b4L1 : ICode :=
  (.seq (.ops [⟨some 99,(.bin .lss (.t 98) (.t 97)),none⟩])
  (.seq (.cond (.t 99)
    .skip
    (.exit 2))
  (.seq (.block 3 (.seq (.ops [⟨some 100,(.ixS 1 (.t 96) (.t 98)),none⟩,⟨some 101,(.load false 1 (.t 100)),none⟩,⟨some 15,(.mv (.t 101)),none⟩])
  (.seq (.ops [⟨some 102,(.mv (.t 15)),none⟩,⟨some 103,(.bin .lss (.t 102) (.k (I 0))),none⟩,⟨some 104,(.mv (.t 103)),none⟩,⟨some 105,(.mv (.t 15)),some (104,false)⟩,⟨some 106,(.mv (.t 0)),some (104,false)⟩,⟨some 107,(.len (.t 106)),some (104,false)⟩,⟨some 108,(.bin .geq (.t 105) (.t 107)),some (104,false)⟩,⟨some 109,(.pick (.t 104) (.k (B true)) (.t 108)),none⟩,⟨some 110,(.mv (.t 109)),none⟩,⟨some 111,(.mv (.t 6)),some (110,false)⟩,⟨some 112,(.mv (.t 15)),some (110,false)⟩,⟨some 113,(.bin .shr (.t 111) (.t 112)),some (110,false)⟩,⟨some 114,(.bin .and (.t 113) (.k (I 1))),some (110,false)⟩,⟨some 115,(.bin .eql (.t 114) (.k (I 0))),some (110,false)⟩,⟨some 116,(.pick (.t 110) (.k (B true)) (.t 115)),none⟩])
  (.cond (.t 116)
    (.seq (.ops [⟨some 2,(.mv (.k (B false))),none⟩])
    .ret)
    .skip))))
  (.ops [⟨some 117,(.bin .add (.t 98) (.k (I 1))),none⟩,⟨some 98,(.mv (.t 117)),none⟩]))))
def c4L1 : ICode := b4L1
theorem w4L1 : W x Q c4L1 ks fr H ms = W x Q b4L1 ks fr H ms := rfl
/- live: [0,6,90,91,92] -/
abbrev b4L0 : ICode :=
  (.seq (.ops [⟨some 93,(.bin .lss (.t 92) (.t 91)),none⟩])
  (.seq (.cond (.t 93)
    .skip
    (.exit 0))
  (.seq (.block 1 (.seq (.ops [⟨some 94,(.ixS 1 (.t 90) (.t 92)),none⟩,⟨some 95,(.load false 1 (.t 94)),none⟩,⟨some 13,(.mv (.t 95)),none⟩])
  (.seq (.ops [⟨some 96,(.mv (.t 13)),none⟩,⟨some 97,(.len (.t 96)),none⟩,⟨some 98,(.mv (.k (I 0))),none⟩])
  (.block 2 (.loop c4L1)))))
  c4T2)))
def c4L0 : ICode := b4L0
theorem w4L0 : W x Q c4L0 ks fr H ms = W x Q b4L0 ks fr H ms := rfl
abbrev b4 : ICode :=
  (.seq (.ops [⟨some 2,(.mv (.k (B false))),none⟩])
  (.seq (.seq (.ops [⟨some 16,(.mv (.t 0)),none⟩,⟨some 17,(.call (.k (.fn (.func 11) [] [])) [(.t 16)]),none⟩,⟨some 18,(.un .not (.t 17)),none⟩])
  (.cond (.t 18)
    (.seq (.ops [⟨some 20,(.mv (.t 0)),none⟩,⟨some 21,(.mv (.t 0)),none⟩,⟨some 22,(.len (.t 21)),none⟩,⟨some 23,(.mn (.t 22) (.k (I 9))),none⟩,⟨some 24,(.slS 1 (.t 20) none (some (.t 23)) none),none⟩,⟨some 25,(.call (.k (.fn (.func 6) [] [])) [(.t 24)]),none⟩,⟨some 26,(.call (.k (.fn (.func 12) [] [])) [(.t 25)]),none⟩,⟨some 19,(.mv (.t 26)),none⟩,⟨some 27,(.ext (.t 19) 0),none⟩,⟨some 28,(.ext (.t 19) 1),none⟩,⟨some 3,(.mv (.t 27)),none⟩,⟨some 4,(.mv (.t 28)),none⟩])
    (.seq (.ops [⟨some 29,(.mv (.t 4)),none⟩,⟨some 30,(.bin .eql (.t 29) (.k (I 2))),none⟩,⟨some 31,(.mv (.t 30)),none⟩,⟨some 32,(.call (.k (.fn (.func 9) [] [])) []),some (31,true)⟩,⟨some 33,(.pick (.t 31) (.t 32) (.k (B false))),none⟩,⟨some 2,(.mv (.t 33)),none⟩])
    .ret))
    .skip))
  (.seq (.draw 2 [] (.early 1 ⟨some 34,(.mv (.t 0)),none⟩
    (.early 1 ⟨some 35,(.call (.k (.fn (.func 6) [] [])) [(.t 34)]),none⟩
    (.early 1 ⟨some 36,(.mv (.t 0)),none⟩
    (.early 1 ⟨some 37,(.len (.t 36)),none⟩
    (.both (.step 0 1 ⟨some 38,(.mksl 1 8 [(I 0)] (.t 37) (.t 37)),none⟩
      (.early 1 ⟨some 39,(.build [nilSl,nilSl] [(0,1,(.t 35)),(1,1,(.t 38))]),none⟩
      (.step 1 1 ⟨some 5,(.alloc [nilSl,nilSl]),none⟩
      (.step 2 0 ⟨none,(.store 2 (.t 5) (.t 39)),none⟩
      .done))))
    (.step 1 1 ⟨some 5,(.alloc [nilSl,nilSl]),none⟩
      (.step 0 1 ⟨some 38,(.mksl 1 8 [(I 0)] (.t 37) (.t 37)),none⟩
      (.early 1 ⟨some 39,(.build [nilSl,nilSl] [(0,1,(.t 35)),(1,1,(.t 38))]),none⟩
      (.step 2 0 ⟨none,(.store 2 (.t 5) (.t 39)),none⟩
      .done))))))))))
  (.keep [0,5] (.seq (.draw 0 [] (.early 1 ⟨some 41,(.load true 2 (.t 5)),none⟩
    (.early 1 ⟨some 42,(.mv (.t 0)),none⟩
    (.early 1 ⟨some 43,(.len (.t 42)),none⟩
    (.early 1 ⟨some 44,(.bin .shl (.k (I 1)) (.t 43)),none⟩
    (.early 1 ⟨some 45,(.bin .sub (.t 44) (.k (I 1))),none⟩
    (.step 0 0 ⟨some 46,(.call (.k (.fn (.func 13) [] [])) [(.t 41),(.t 45)]),none⟩
    (.early 0 ⟨some 40,(.mv (.t 46)),none⟩
    (.early 1 ⟨some 47,(.ext (.t 40) 0),none⟩
    (.early 1 ⟨some 48,(.ext (.t 40) 1),none⟩
    (.early 1 ⟨some 6,(.mv (.t 47)),none⟩
    (.early 0 ⟨some 7,(.mv (.t 48)),none⟩
    .done))))))))))))
  (.keep [0,6,7] (.seq (.ops [⟨some 50,(.mv (.t 0)),none⟩,⟨some 51,(.call (.k (.fn (.func 6) [] [])) [(.t 50)]),none⟩,⟨some 52,(.call (.k (.fn (.func 12) [] [])) [(.t 51)]),none⟩,⟨some 49,(.mv (.t 52)),none⟩,⟨some 53,(.ext (.t 49) 0),none⟩,⟨some 54,(.ext (.t 49) 1),none⟩,⟨some 8,(.mv (.t 53)),none⟩,⟨some 9,(.mv (.t 54)),none⟩])
  (.seq (.ops [⟨some 56,(.mv (.t 0)),none⟩,⟨some 57,(.call (.k (.fn (.func 6) [] [])) [(.t 56)]),none⟩,⟨some 58,(.call (.k (.fn (.func 14) [] [])) [(.t 57)]),none⟩,⟨some 55,(.mv (.t 58)),none⟩,⟨some 59,(.ext (.t 55) 0),none⟩,⟨some 60,(.ext (.t 55) 1),none⟩,⟨some 10,(.mv (.t 59)),none⟩,⟨some 11,(.mv (.t 60)),none⟩])
  (.seq (.seq (.ops [⟨some 61,(.mv (.t 7)),none⟩,⟨some 62,(.bin .neq (.t 61) (.k (I 0))),none⟩,⟨some 63,(.mv (.t 62)),none⟩,⟨some 64,(.mv (.t 9)),some (63,false)⟩,⟨some 65,(.bin .neq (.t 64) (.k (I 0))),some (63,false)⟩,⟨some 66,(.pick (.t 63) (.k (B true)) (.t 65)),none⟩,⟨some 67,(.mv (.t 66)),none⟩,⟨some 68,(.mv (.t 11)),some (67,false)⟩,⟨some 69,(.bin .neq (.t 68) (.k (I 0))),some (67,false)⟩,⟨some 70,(.pick (.t 67) (.k (B true)) (.t 69)),none⟩,⟨some 71,(.mv (.t 70)),none⟩,⟨some 72,(.mv (.t 6)),some (71,false)⟩,⟨some 73,(.bin .eql (.t 72) (.k (I 0))),some (71,false)⟩,⟨some 74,(.mv (.t 73)),some (71,false)⟩,⟨some 75,(.mv (.t 10)),some (74,true)⟩,⟨some 76,(.len (.t 75)),some (74,true)⟩,⟨some 77,(.bin .neq (.t 76) (.k (I 0))),some (74,true)⟩,⟨some 78,(.pick (.t 74) (.t 77) (.k (B false))),some (71,false)⟩,⟨some 79,(.pick (.t 71) (.k (B true)) (.t 78)),none⟩,⟨some 80,(.mv (.t 79)),none⟩,⟨some 81,(.mv (.t 8)),some (80,false)⟩,⟨some 82,(.len (.t 81)),some (80,false)⟩,⟨some 83,(.bin .eql (.t 82) (.k (I 0))),some (80,false)⟩,⟨some 84,(.mv (.t 83)),some (80,false)⟩,⟨some 85,(.mv (.t 10)),some (84,true)⟩,⟨some 86,(.len (.t 85)),some (84,true)⟩,⟨some 87,(.bin .neq (.t 86) (.k (I 0))),some (84,true)⟩,⟨some 88,(.pick (.t 84) (.t 87) (.k (B false))),some (80,false)⟩,⟨some 89,(.pick (.t 80) (.k (B true)) (.t 88)),none⟩])
  (.cond (.t 89)
    (.seq (.ops [⟨some 2,(.mv (.k (B false))),none⟩])
    .ret)
    .skip))
  (.seq (.seq (.ops [⟨some 90,(.mv (.t 8)),none⟩,⟨some 91,(.len (.t 90)),none⟩,⟨some 92,(.mv (.k (I 0))),none⟩])
  (.block 0 (.loop c4L0)))
  c4T3))))))))))
def c4 : ICode := b4
theorem w4 : W x Q c4 ks fr H ms = W x Q b4 ks fr H ms := rfl
def r4 : List IRes := [(.tmp 2)]
theorem t4 : Try.f4.body.bind (trCode Try.prog Try.f4.ntmps) = some (strip c4) := by kernel_rfl
theorem q4 : trRes Try.prog Try.f4.results.toList = some r4 := by kernel_rfl
theorem fn4 : Try.prog.funcs[4]? = some Try.f4 := by kernel_rfl
theorem nn4 : (Try.f4.name == "runtime.NumGoroutine") = false := by kernel_rfl
theorem nt4 : Try.f4.ntmps = 120 := by kernel_rfl
end Go.Proofs.Ytlonaefihjdkpaa
