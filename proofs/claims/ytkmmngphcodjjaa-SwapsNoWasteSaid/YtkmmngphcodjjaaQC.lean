/- The code of some functions of the program,cleaned: printed by a program of mine,checked here. -/
import Derived.Test.YtkmmngphcodjjaaProg
import Derived.Test.YtkmmngphcodjjaaAS
import Derived.Test.YtkmmngphcodjjaaCE
import Derived.KernelRfl
namespace Go.Proofs.Ytkmmngphcodjjaa.NoW
open Go.Abs AVal
variable {x : Cx} {Q : QT} {ks : List Kont} {fr : Fr} {H : AHeap} {ms : List Nat}
abbrev b11T12 : ICode :=
  (.keep [] (.seq (.ops [⟨some 168,(.call (.k (.fn (.func 19) [] [])) []),none⟩,⟨some 6,(.mv (.t 168)),none⟩])
  .ret))
def c11T12 : ICode := b11T12
theorem w11T12 : W x Q c11T12 ks fr H ms = W x Q b11T12 ks fr H ms := rfl
abbrev b11T11 : ICode :=
  (.keep [0,2,148,149,150] (.ops [⟨some 167,(.bin .add (.t 150) (.k (I 1))),none⟩,⟨some 150,(.mv (.t 167)),none⟩]))
def c11T11 : ICode := b11T11
theorem w11T11 : W x Q c11T11 ks fr H ms = W x Q b11T11 ks fr H ms := rfl
abbrev b11T10 : ICode :=
  (.keep [0,2,148,149,150] (.seq (.block 1 (.seq (.ops [⟨some 152,(.mv (.t 150)),none⟩,⟨some 153,(.ixS 1 (.t 148) (.t 150)),none⟩,⟨some 154,(.load false 1 (.t 153)),none⟩,⟨some 22,(.mv (.t 152)),none⟩,⟨some 23,(.mv (.t 154)),none⟩])
  (.seq (.draw 0 [] (.early 1 ⟨some 155,(.mv (.t 0)),none⟩
    (.early 1 ⟨some 156,(.mv (.t 22)),none⟩
    (.early 1 ⟨some 157,(.mv (.t 23)),none⟩
    (.early 1 ⟨some 158,(.call (.k (.fn (.func 24) [] [])) [(.t 155),(.t 156),(.t 157)]),none⟩
    (.early 1 ⟨some 159,(.mv (.t 0)),none⟩
    (.early 1 ⟨some 160,(.mv (.t 22)),none⟩
    (.early 1 ⟨some 161,(.mv (.t 2)),none⟩
    (.early 1 ⟨some 162,(.mv (.t 22)),none⟩
    (.early 1 ⟨some 163,(.ixS 1 (.t 161) (.t 162)),none⟩
    (.early 1 ⟨some 164,(.load false 1 (.t 163)),none⟩
    (.step 0 0 ⟨some 165,(.call (.k (.fn (.func 24) [] [])) [(.t 159),(.t 160),(.t 164)]),none⟩
    (.early 0 ⟨some 166,(.bin .gtr (.t 158) (.t 165)),none⟩
    .done)))))))))))))
  (.keep [0,2,148,149,150,166] (.cond (.t 166)
    (.seq (.ops [⟨some 6,(.mv (.k (B false))),none⟩])
    .ret)
    .skip)))))
  c11T11))
def c11T10 : ICode := b11T10
theorem w11T10 : W x Q c11T10 ks fr H ms = W x Q b11T10 ks fr H ms := rfl
/- live: [0,2,148,149,150] -/
abbrev b11L9 : ICode :=
  (.seq (.ops [⟨some 151,(.bin .lss (.t 150) (.t 149)),none⟩])
  (.seq (.cond (.t 151)
    .skip
    (.exit 0))
  c11T10))
def c11L9 : ICode := b11L9
theorem w11L9 : W x Q c11L9 ks fr H ms = W x Q b11L9 ks fr H ms := rfl
abbrev b11T8 : ICode :=
  (.keep [0,2,20] (.seq (.seq (.ops [⟨some 148,(.mv (.t 20)),none⟩,⟨some 149,(.len (.t 148)),none⟩,⟨some 150,(.mv (.k (I 0))),none⟩])
  (.block 0 (.loop c11L9)))
  c11T12))
def c11T8 : ICode := b11T8
theorem w11T8 : W x Q c11T8 ks fr H ms = W x Q b11T8 ks fr H ms := rfl
abbrev b11T7 : ICode :=
  (.keep [0,2,20] (.seq (.seq (.ops [⟨some 138,(.mv (.t 20)),none⟩,⟨some 139,(.mv (.t 0)),none⟩,⟨some 140,(.len (.t 139)),none⟩,⟨some 141,(.call (.k (.fn (.func 23) [] [])) [(.t 138),(.t 140)]),none⟩,⟨some 142,(.un .not (.t 141)),none⟩,⟨some 143,(.mv (.t 142)),none⟩,⟨some 144,(.mv (.t 20)),some (143,false)⟩,⟨some 145,(.mv (.t 2)),some (143,false)⟩,⟨some 146,(.call (.k (.fn (.func 20) [] [])) [(.t 144),(.t 145)]),some (143,false)⟩,⟨some 147,(.pick (.t 143) (.k (B true)) (.t 146)),none⟩])
  (.cond (.t 147)
    (.seq (.ops [⟨some 6,(.mv (.k (B false))),none⟩])
    .ret)
    .skip))
  c11T8))
def c11T7 : ICode := b11T7
theorem w11T7 : W x Q c11T7 ks fr H ms = W x Q b11T7 ks fr H ms := rfl
abbrev b11T6 : ICode :=
  (.keep [0,2,20,21] (.seq (.seq (.ops [⟨some 135,(.mv (.t 21)),none⟩,⟨some 136,(.bin .neq (.t 135) (.k (I 0))),none⟩])
  (.cond (.t 136)
    (.seq (.ops [⟨some 137,(.call (.k (.fn (.func 19) [] [])) []),none⟩,⟨some 6,(.mv (.t 137)),none⟩])
    .ret)
    .skip))
  c11T7))
def c11T6 : ICode := b11T6
theorem w11T6 : W x Q c11T6 ks fr H ms = W x Q b11T6 ks fr H ms := rfl
abbrev b11T5 : ICode :=
  (.keep [0,2] (.seq (.ops [⟨some 115,(.mv (.t 0)),none⟩,⟨some 116,(.call (.k (.fn (.func 16) [] [])) [(.t 115)]),none⟩,⟨some 117,(.mv (.t 2)),none⟩,⟨some 118,(.call (.k (.fn (.func 27) [] [])) [(.t 117)]),none⟩,⟨some 119,(.call (.k (.fn (.func 31) [] [])) [(.t 116),(.t 118)]),none⟩,⟨some 114,(.mv (.t 119)),none⟩,⟨some 120,(.ext (.t 114) 0),none⟩,⟨some 121,(.ext (.t 114) 1),none⟩,⟨some 18,(.mv (.t 120)),none⟩,⟨some 19,(.mv (.t 121)),none⟩])
  (.seq (.ops [⟨some 123,(.mv (.t 0)),none⟩,⟨some 124,(.call (.k (.fn (.func 16) [] [])) [(.t 123)]),none⟩,⟨some 125,(.mv (.t 2)),none⟩,⟨some 126,(.call (.k (.fn (.func 27) [] [])) [(.t 125)]),none⟩,⟨some 127,(.call (.k (.fn (.func 39) [] [])) [(.t 124),(.t 126)]),none⟩,⟨some 122,(.mv (.t 127)),none⟩,⟨some 128,(.ext (.t 122) 0),none⟩,⟨some 129,(.ext (.t 122) 1),none⟩,⟨some 20,(.mv (.t 128)),none⟩,⟨some 21,(.mv (.t 129)),none⟩])
  (.seq (.seq (.ops [⟨some 130,(.mv (.t 19)),none⟩,⟨some 131,(.bin .eql (.t 130) (.k (I 0))),none⟩,⟨some 132,(.mv (.t 21)),none⟩,⟨some 133,(.bin .eql (.t 132) (.k (I 4))),none⟩,⟨some 134,(.eqb true (.t 131) (.t 133)),none⟩])
  (.cond (.t 134)
    (.seq (.ops [⟨some 6,(.mv (.k (B false))),none⟩])
    .ret)
    .skip))
  c11T6))))
def c11T5 : ICode := b11T5
theorem w11T5 : W x Q c11T5 ks fr H ms = W x Q b11T5 ks fr H ms := rfl
abbrev b11T4 : ICode :=
  (.keep [0,2] (.seq (.seq (.ops [⟨some 108,(.mv (.t 2)),none⟩,⟨some 109,(.mv (.t 0)),none⟩,⟨some 110,(.len (.t 109)),none⟩,⟨some 111,(.call (.k (.fn (.func 23) [] [])) [(.t 108),(.t 110)]),none⟩,⟨some 112,(.un .not (.t 111)),none⟩])
  (.cond (.t 112)
    (.seq (.ops [⟨some 113,(.call (.k (.fn (.func 19) [] [])) []),none⟩,⟨some 6,(.mv (.t 113)),none⟩])
    .ret)
    .skip))
  c11T5))
def c11T4 : ICode := b11T4
theorem w11T4 : W x Q c11T4 ks fr H ms = W x Q b11T4 ks fr H ms := rfl
abbrev b11T3 : ICode :=
  (.keep [0,2,11,15] (.seq (.ops [⟨some 94,(.mv (.t 0)),none⟩,⟨some 95,(.call (.k (.fn (.func 16) [] [])) [(.t 94)]),none⟩,⟨some 96,(.mv (.t 15)),none⟩,⟨some 97,(.call (.k (.fn (.func 30) [] [])) [(.t 95),(.t 96)]),none⟩,⟨some 93,(.mv (.t 97)),none⟩,⟨some 98,(.ext (.t 93) 0),none⟩,⟨some 99,(.ext (.t 93) 1),none⟩,⟨some 17,(.mv (.t 98)),none⟩,⟨some 12,(.mv (.t 99)),none⟩])
  (.seq (.ops [⟨some 100,(.mv (.t 12)),none⟩,⟨some 101,(.bin .neq (.t 100) (.k (I 0))),none⟩,⟨some 102,(.mv (.t 101)),none⟩,⟨some 103,(.mv (.t 17)),some (102,false)⟩,⟨some 104,(.mv (.t 11)),some (102,false)⟩,⟨some 105,(.call (.k (.fn (.func 20) [] [])) [(.t 103),(.t 104)]),some (102,false)⟩,⟨some 106,(.un .not (.t 105)),some (102,false)⟩,⟨some 107,(.pick (.t 102) (.k (B true)) (.t 106)),none⟩])
  (.cond (.t 107)
    (.seq (.ops [⟨some 6,(.mv (.k (B false))),none⟩])
    .ret)
    .skip))))
def c11T3 : ICode := b11T3
theorem w11T3 : W x Q c11T3 ks fr H ms = W x Q b11T3 ks fr H ms := rfl
abbrev b11T2 : ICode :=
  (.keep [0,1,2,11] (.seq (.ops [⟨some 66,(.mv (.t 0)),none⟩,⟨some 67,(.call (.k (.fn (.func 16) [] [])) [(.t 66)]),none⟩,⟨some 68,(.mv (.t 11)),none⟩,⟨some 69,(.call (.k (.fn (.func 43) [] [])) [(.t 68)]),none⟩,⟨some 70,(.call (.k (.fn (.func 39) [] [])) [(.t 67),(.t 69)]),none⟩,⟨some 65,(.mv (.t 70)),none⟩,⟨some 71,(.ext (.t 65) 0),none⟩,⟨some 72,(.ext (.t 65) 1),none⟩,⟨some 13,(.mv (.t 71)),none⟩,⟨some 14,(.mv (.t 72)),none⟩])
  (.seq (.ops [⟨some 74,(.mv (.t 0)),none⟩,⟨some 75,(.call (.k (.fn (.func 16) [] [])) [(.t 74)]),none⟩,⟨some 76,(.mv (.t 11)),none⟩,⟨some 77,(.call (.k (.fn (.func 43) [] [])) [(.t 76)]),none⟩,⟨some 78,(.call (.k (.fn (.func 31) [] [])) [(.t 75),(.t 77)]),none⟩,⟨some 73,(.mv (.t 78)),none⟩,⟨some 79,(.ext (.t 73) 0),none⟩,⟨some 80,(.ext (.t 73) 1),none⟩,⟨some 15,(.mv (.t 79)),none⟩,⟨some 16,(.mv (.t 80)),none⟩])
  (.seq (.seq (.ops [⟨some 81,(.mv (.t 14)),none⟩,⟨some 82,(.bin .neq (.t 81) (.k (I 4))),none⟩,⟨some 83,(.mv (.t 82)),none⟩,⟨some 84,(.mv (.t 16)),some (83,false)⟩,⟨some 85,(.bin .neq (.t 84) (.k (I 0))),some (83,false)⟩,⟨some 86,(.pick (.t 83) (.k (B true)) (.t 85)),none⟩,⟨some 87,(.mv (.t 86)),none⟩,⟨some 88,(.mv (.t 15)),some (87,false)⟩,⟨some 89,(.mv (.t 1)),some (87,false)⟩,⟨some 90,(.call (.k (.fn (.func 45) [] [])) [(.t 88),(.t 89)]),some (87,false)⟩,⟨some 91,(.bin .gtr (.t 90) (.k (I 0))),some (87,false)⟩,⟨some 92,(.pick (.t 87) (.k (B true)) (.t 91)),none⟩])
  (.cond (.t 92)
    (.seq (.ops [⟨some 6,(.mv (.k (B false))),none⟩])
    .ret)
    .skip))
  c11T3))))
def c11T2 : ICode := b11T2
theorem w11T2 : W x Q c11T2 ks fr H ms = W x Q b11T2 ks fr H ms := rfl
abbrev b11T1 : ICode :=
  (.keep [0,1,2] (.seq (.seq (.ops [⟨some 51,(.mv (.t 1)),none⟩,⟨some 52,(.mv (.t 0)),none⟩,⟨some 53,(.len (.t 52)),none⟩,⟨some 54,(.call (.k (.fn (.func 23) [] [])) [(.t 51),(.t 53)]),none⟩])
  (.cond (.t 54)
    (.seq (.ops [⟨some 56,(.mv (.t 0)),none⟩,⟨some 57,(.call (.k (.fn (.func 16) [] [])) [(.t 56)]),none⟩,⟨some 58,(.mv (.t 1)),none⟩,⟨some 59,(.call (.k (.fn (.func 27) [] [])) [(.t 58)]),none⟩,⟨some 60,(.call (.k (.fn (.func 30) [] [])) [(.t 57),(.t 59)]),none⟩,⟨some 55,(.mv (.t 60)),none⟩,⟨some 61,(.ext (.t 55) 0),none⟩,⟨some 62,(.ext (.t 55) 1),none⟩,⟨some 11,(.mv (.t 61)),none⟩,⟨some 12,(.mv (.t 62)),none⟩])
    (.seq (.seq (.ops [⟨some 63,(.mv (.t 12)),none⟩,⟨some 64,(.bin .neq (.t 63) (.k (I 0))),none⟩])
    (.cond (.t 64)
      (.seq (.ops [⟨some 6,(.mv (.k (B false))),none⟩])
      .ret)
      .skip))
    c11T2))
    .skip))
  c11T4))
def c11T1 : ICode := b11T1
theorem w11T1 : W x Q c11T1 ks fr H ms = W x Q b11T1 ks fr H ms := rfl
abbrev b11T0 : ICode :=
  (.keep [0,1,2,7] (.seq (.seq (.ops [⟨some 43,(.mv (.t 0)),none⟩,⟨some 44,(.call (.k (.fn (.func 16) [] [])) [(.t 43)]),none⟩,⟨some 45,(.mv (.t 7)),none⟩,⟨some 46,(.call (.k (.fn (.func 39) [] [])) [(.t 44),(.t 45)]),none⟩,⟨some 42,(.mv (.t 46)),none⟩,⟨some 47,(.ext (.t 42) 0),none⟩,⟨some 48,(.ext (.t 42) 1),none⟩,⟨some 9,(.mv (.t 47)),none⟩,⟨some 10,(.mv (.t 48)),none⟩])
  (.seq (.ops [⟨some 49,(.mv (.t 10)),none⟩,⟨some 50,(.bin .neq (.t 49) (.k (I 4))),none⟩])
  (.cond (.t 50)
    (.seq (.ops [⟨some 6,(.mv (.k (B false))),none⟩])
    .ret)
    .skip)))
  c11T1))
def c11T0 : ICode := b11T0
theorem w11T0 : W x Q c11T0 ks fr H ms = W x Q b11T0 ks fr H ms := rfl
abbrev b11 : ICode :=
  (.seq (.ops [⟨some 6,(.mv (.k (B false))),none⟩])
  (.seq (.ops [⟨some 25,(.mv (.t 0)),none⟩,⟨some 26,(.call (.k (.fn (.func 16) [] [])) [(.t 25)]),none⟩,⟨some 27,(.call (.k (.fn (.func 15) [] [])) [(.t 26)]),none⟩,⟨some 24,(.mv (.t 27)),none⟩,⟨some 28,(.ext (.t 24) 0),none⟩,⟨some 29,(.ext (.t 24) 1),none⟩,⟨some 7,(.mv (.t 28)),none⟩,⟨some 8,(.mv (.t 29)),none⟩])
  (.seq (.seq (.ops [⟨some 30,(.mv (.t 8)),none⟩,⟨some 31,(.bin .neq (.t 30) (.k (I 0))),none⟩,⟨some 32,(.mv (.t 31)),none⟩,⟨some 33,(.mv (.t 0)),some (32,false)⟩,⟨some 34,(.call (.k (.fn (.func 18) [] [])) [(.t 33)]),some (32,false)⟩,⟨some 35,(.un .not (.t 34)),some (32,false)⟩,⟨some 36,(.pick (.t 32) (.k (B true)) (.t 35)),none⟩])
  (.cond (.t 36)
    (.seq (.ops [⟨some 37,(.mv (.t 8)),none⟩,⟨some 38,(.bin .eql (.t 37) (.k (I 2))),none⟩,⟨some 39,(.mv (.t 38)),none⟩,⟨some 40,(.call (.k (.fn (.func 19) [] [])) []),some (39,true)⟩,⟨some 41,(.pick (.t 39) (.t 40) (.k (B false))),none⟩,⟨some 6,(.mv (.t 41)),none⟩])
    .ret)
    .skip))
  c11T0)))
def c11 : ICode := b11
theorem w11 : W x Q c11 ks fr H ms = W x Q b11 ks fr H ms := rfl
def r11 : List IRes := [(.tmp 6)]
theorem t11 : Try.f11.body.bind (trCode Try.prog Try.f11.ntmps) = some (strip c11) := by kernel_rfl
theorem q11 : trRes Try.prog Try.f11.results.toList = some r11 := by kernel_rfl
theorem fn11 : Try.prog.funcs[11]? = some Try.f11 := by kernel_rfl
theorem nn11 : (Try.f11.name == "runtime.NumGoroutine") = false := by kernel_rfl
theorem nt11 : Try.f11.ntmps = 169 := by kernel_rfl
end Go.Proofs.Ytkmmngphcodjjaa.NoW
