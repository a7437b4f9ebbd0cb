/- Lists in order, plain; slices.SortFunc of this program is the library's: its bodies and types, number for number. -/
import Derived.Test.YtipfjfmdjmaflaaLP
import Derived.Test.YtipfjfmdjmaflaaAO
import Derived.Test.YtipfjfmdjmaflaaAG
import Derived.Test.YtipfjfmdjmaflaaProg
import Derived.Shelf.SlSortCmp.NoneTotal
namespace Go.Abs.Sp
/-- Which slice comes first: less than 0, or more. -/
def cmpL : List Int → List Int → Int
  | [], [] => 0
  | [], _ :: _ => -1
  | _ :: _, [] => 1
  | x :: a, y :: b => if x < y then -1 else if x > y then 1 else cmpL a b
theorem cmpL_self : ∀ a : List Int, cmpL a a = 0
  | [] => rfl
  | x :: a => by rw [cmpL, if_neg (by omega), if_neg (by omega), cmpL_self a]
theorem cmpL_anti : ∀ a b : List Int, cmpL b a = - cmpL a b
  | [], [] => rfl
  | [], _ :: _ => rfl
  | _ :: _, [] => rfl
  | x :: a, y :: b => by
    have ih := cmpL_anti a b
    simp only [cmpL]
    split <;> split <;> (try split) <;> (try split) <;> first | omega | rfl
theorem cmpL_eq : ∀ {a b : List Int}, cmpL a b = 0 → a = b
  | [], [], _ => rfl
  | [], _ :: _, h => by cases h
  | _ :: _, [], h => by cases h
  | x :: a, y :: b, h => by
    simp only [cmpL] at h
    split at h
    · cases h
    · split at h
      · cases h
      · rw [cmpL_eq h, show x = y by omega]
theorem cmpL_trans : ∀ {a b c : List Int}, cmpL a b ≤ 0 → cmpL b c ≤ 0 → cmpL a c ≤ 0
  | [], [], c, _, h => h
  | [], _ :: _, [], _, h => by simp [cmpL] at h
  | [], _ :: _, _ :: _, _, _ => by simp [cmpL]
  | _ :: _, [], _, h, _ => by simp [cmpL] at h
  | _ :: _, _ :: _, [], _, h => by simp [cmpL] at h
  | x :: a, y :: b, z :: c, h1, h2 => by
    have ih := cmpL_trans (a := a) (b := b) (c := c)
    simp only [cmpL] at h1 h2 ⊢
    split at h1
    · split at h2
      · rw [if_pos (by omega)]; omega
      · split at h2
        · omega
        · rw [if_pos (by omega)]; omega
    · split at h1
      · omega
      · split at h2
        · rw [if_pos (by omega)]; omega
        · split at h2
          · omega
          · rw [if_neg (by omega), if_neg (by omega)]; exact ih h1 h2
/-- In order. -/
def leV (a b : List Int) : Bool := decide (cmpL a b ≤ 0)
def sortV (l : List (List Int)) : List (List Int) := l.mergeSort leV
theorem sortV_perm (l : List (List Int)) : (sortV l).Perm l := List.mergeSort_perm l leV
theorem sortV_asc (l : List (List Int)) : (sortV l).Pairwise fun a b => cmpL a b ≤ 0 := by
  have := List.pairwise_mergeSort (le := leV) (fun a b c h1 h2 => by simp only [leV, decide_eq_true_eq] at *; exact cmpL_trans h1 h2) (fun a b => by
    have := cmpL_anti a b
    simp only [leV, Bool.or_eq_true, decide_eq_true_eq]; omega) l
  exact this.imp fun h => by simpa [leV] using h
/-- A list in order is told by what is in it. -/
theorem asc_unique {l m : List (List Int)} (h1 : l.Pairwise fun a b => cmpL a b ≤ 0) (h2 : m.Pairwise fun a b => cmpL a b ≤ 0) (hp : l.Perm m) : l = m :=
  List.Perm.eq_of_pairwise (fun a b _ _ h1 h2 => cmpL_eq (by have := cmpL_anti a b; omega)) h1 h2 hp
theorem swoL {α : Type} (f : α → List Int) : Go.Sort.SWO (Go.Proofs.ltOf fun a b : α => cmpL (f a) (f b)) := by
  refine ⟨fun x => ?_, fun x y z h1 h2 => ?_, fun x y z h1 h2 => ?_⟩
  · simp [Go.Proofs.ltOf, cmpL_self]
  · simp only [Go.Proofs.ltOf, decide_eq_true_eq] at *
    have a1 := cmpL_anti (f x) (f z)
    have a2 := cmpL_anti (f x) (f y)
    have a3 := cmpL_anti (f y) (f z)
    have t1 := @cmpL_trans (f x) (f y) (f z) (by omega) (by omega)
    by_cases h0 : cmpL (f x) (f z) = 0
    · have e := cmpL_eq h0
      rw [e] at h1
      omega
    · omega
  · simp only [Go.Proofs.ltOf, decide_eq_false_iff_not] at *
    have a1 := cmpL_anti (f x) (f z)
    have a2 := cmpL_anti (f x) (f y)
    have a3 := cmpL_anti (f y) (f z)
    have := @cmpL_trans (f z) (f y) (f x) (by omega) (by omega)
    omega
end Go.Abs.Sp
namespace Go.Proofs.Ytipfjfmdjmaflaa
open Go.Abs AVal
def sortRen : Go.Shelf.Ren := ⟨fun | 6 => 46 | 14 => 89 | 15 => 90 | 20 => 118 | 21 => 119 | 22 => 120 | 23 => 121 | 24 => 122 | 25 => 123 | 26 => 124 | 27 => 125 | 28 => 126 | 29 => 127 | 46 => 139 | 47 => 140 | 48 => 141 | 49 => 142 | 50 => 143 | 57 => 146 | n => n, fun | 0 => 0 | 3 => 3 | 4 => 4 | 5 => 5 | 9 => 9 | 22 => 22 | 24 => 23 | 25 => 46 | 39 => 53 | 45 => 120 | 46 => 121 | 50 => 125 | 53 => 128 | 55 => 130 | 66 => 138 | 70 => 142 | 76 => 146 | 77 => 147 | n => n, fun n => n⟩
theorem mixed' : Try.prog.follows .mixedOrders = true := by kernel_rfl
theorem sortLay : SlLaysF.n6 Try.prog sortRen := {
  mixed := mixed',
  f6 := ⟨Try.f46.name, by decide, Try.func46.trans (congrArg some (by kernel_rfl))⟩,
  f14 := ⟨Try.f89.name, by decide, Try.func89.trans (congrArg some (by kernel_rfl))⟩,
  f15 := Try.func90.trans (congrArg some (by kernel_rfl)),
  f20 := ⟨Try.f118.name, by decide, Try.func118.trans (congrArg some (by kernel_rfl))⟩,
  f21 := ⟨Try.f119.name, by decide, Try.func119.trans (congrArg some (by kernel_rfl))⟩,
  f22 := ⟨Try.f120.name, by decide, Try.func120.trans (congrArg some (by kernel_rfl))⟩,
  f23 := ⟨Try.f121.name, by decide, Try.func121.trans (congrArg some (by kernel_rfl))⟩,
  f24 := ⟨Try.f122.name, by decide, Try.func122.trans (congrArg some (by kernel_rfl))⟩,
  f25 := ⟨Try.f123.name, by decide, Try.func123.trans (congrArg some (by kernel_rfl))⟩,
  f26 := ⟨Try.f124.name, by decide, Try.func124.trans (congrArg some (by kernel_rfl))⟩,
  f27 := ⟨Try.f125.name, by decide, Try.func125.trans (congrArg some (by kernel_rfl))⟩,
  f28 := Try.func126.trans (congrArg some (by kernel_rfl)),
  f29 := Try.func127.trans (congrArg some (by kernel_rfl)),
  f46 := ⟨Try.f139.name, by decide, Try.func139.trans (congrArg some (by kernel_rfl))⟩,
  f47 := Try.func140.trans (congrArg some (by kernel_rfl)),
  f48 := Try.func141.trans (congrArg some (by kernel_rfl)),
  f49 := ⟨Try.f142.name, by decide, Try.func142.trans (congrArg some (by kernel_rfl))⟩,
  f50 := ⟨Try.f143.name, by decide, Try.func143.trans (congrArg some (by kernel_rfl))⟩,
  f57 := ⟨Try.f146.name, by decide, Try.func146.trans (congrArg some (by kernel_rfl))⟩,
  t0 := Try.underlying0,
  a0 := Try.isAgg0,
  z0 := Try.sizeOf0,
  v0 := Try.zeroValue0,
  t3 := Try.underlying3,
  a3 := Try.isAgg3,
  z3 := Try.sizeOf3,
  v3 := Try.zeroValue3,
  t4 := Try.underlying4,
  a4 := Try.isAgg4,
  z4 := Try.sizeOf4,
  v4 := Try.zeroValue4,
  t5 := Try.underlying5,
  a5 := Try.isAgg5,
  z5 := Try.sizeOf5,
  v5 := Try.zeroValue5,
  t9 := Try.underlying9,
  a9 := Try.isAgg9,
  z9 := Try.sizeOf9,
  v9 := Try.zeroValue9,
  t22 := Try.underlying22,
  a22 := Try.isAgg22,
  z22 := Try.sizeOf22,
  v22 := Try.zeroValue22,
  a24 := Try.isAgg23,
  z24 := Try.sizeOf23,
  t25 := Try.underlying46,
  a25 := Try.isAgg46,
  z25 := Try.sizeOf46,
  v25 := Try.zeroValue46,
  t39 := Try.underlying53,
  a39 := Try.isAgg53,
  z39 := Try.sizeOf53,
  v39 := Try.zeroValue53,
  t45 := Try.underlying120,
  a45 := Try.isAgg120,
  z45 := Try.sizeOf120,
  v45 := Try.zeroValue120,
  t46 := Try.underlying121,
  a46 := Try.isAgg121,
  z46 := Try.sizeOf121,
  v46 := Try.zeroValue121,
  t50 := Try.underlying125,
  a50 := Try.isAgg125,
  z50 := Try.sizeOf125,
  v50 := Try.zeroValue125,
  t53 := Try.underlying128,
  a53 := Try.isAgg128,
  z53 := Try.sizeOf128,
  v53 := Try.zeroValue128,
  t55 := Try.underlying130,
  a55 := Try.isAgg130,
  z55 := Try.sizeOf130,
  v55 := Try.zeroValue130,
  t66 := Try.underlying138,
  a66 := Try.isAgg138,
  z66 := Try.sizeOf138,
  v66 := Try.zeroValue138,
  t70 := Try.underlying142,
  a70 := Try.isAgg142,
  z70 := Try.sizeOf142,
  v70 := Try.zeroValue142,
  t76 := Try.underlying146,
  a76 := Try.isAgg146,
  z76 := Try.sizeOf146,
  v76 := Try.zeroValue146,
  t77 := Try.underlying147,
  a77 := Try.isAgg147,
  z77 := Try.sizeOf147,
  v77 := Try.zeroValue147 }
end Go.Proofs.Ytipfjfmdjmaflaa
