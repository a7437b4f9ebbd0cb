/- Lists in order,plain. -/
import Derived.Test.YtlonaefihjdkpaaTLP
import Derived.Test.YtlonaefihjdkpaaAO
namespace Go.Abs.Sp
def cmpL : List Int → List Int → Int
  | [],[] => 0
  | [],_ :: _ => -1
  | _ :: _,[] => 1
  | x :: a,y :: b => if x < y then -1 else if x > y then 1 else cmpL a b
theorem cmpL_self : ∀ a : List Int,cmpL a a = 0
  | [] => rfl
  | x :: a => by rw [cmpL,if_neg (by omega),if_neg (by omega),cmpL_self a]
theorem cmpL_anti : ∀ a b : List Int,cmpL b a = - cmpL a b
  | [],[] => rfl
  | [],_ :: _ => rfl
  | _ :: _,[] => rfl
  | x :: a,y :: b => by
    have ih := cmpL_anti a b
    simp only [cmpL]
    split <;> split <;> (try split) <;> (try split) <;> first | omega | rfl
theorem cmpL_eq : ∀ {a b : List Int},cmpL a b = 0 → a = b
  | [],[],_ => rfl
  | [],_ :: _,h => by cases h
  | _ :: _,[],h => by cases h
  | x :: a,y :: b,h => by
    simp only [cmpL] at h
    split at h
    · cases h
    · split at h
      · cases h
      · rw [cmpL_eq h,show x = y by omega]
theorem cmpL_trans : ∀ {a b c : List Int},cmpL a b ≤ 0 → cmpL b c ≤ 0 → cmpL a c ≤ 0
  | [],[],c,_,h => h
  | [],_ :: _,[],_,h => by simp [cmpL] at h
  | [],_ :: _,_ :: _,_,_ => by simp [cmpL]
  | _ :: _,[],_,h,_ => by simp [cmpL] at h
  | _ :: _,_ :: _,[],_,h => by simp [cmpL] at h
  | x :: a,y :: b,z :: c,h1,h2 => by
    have ih := cmpL_trans (a := a) (b := b) (c := c)
    simp only [cmpL] at h1 h2 ⊢
    split at h1
    · split at h2
      · rw [if_pos (by omega)]; omega
      · split at h2
        · omega
        · rw [if_pos (by omega)]; omega
    · split at h1
      · omega
      · split at h2
        · rw [if_pos (by omega)]; omega
        · split at h2
          · omega
          · rw [if_neg (by omega),if_neg (by omega)]; exact ih h1 h2
def leV (a b : List Int) : Bool := decide (cmpL a b ≤ 0)
def sortV (l : List (List Int)) : List (List Int) := l.mergeSort leV
theorem sortV_perm (l : List (List Int)) : (sortV l).Perm l := List.mergeSort_perm l leV
theorem sortV_asc (l : List (List Int)) : (sortV l).Pairwise fun a b => cmpL a b ≤ 0 := by
  have := List.pairwise_mergeSort (le := leV) (fun a b c h1 h2 => by simp only [leV,decide_eq_true_eq] at *; exact cmpL_trans h1 h2) (fun a b => by
    have := cmpL_anti a b
    simp only [leV,Bool.or_eq_true,decide_eq_true_eq]; omega) l
  exact this.imp fun h => by simpa [leV] using h
theorem asc_unique {l m : List (List Int)} (h1 : l.Pairwise fun a b => cmpL a b ≤ 0) (h2 : m.Pairwise fun a b => cmpL a b ≤ 0) (hp : l.Perm m) : l = m :=
  List.Perm.eq_of_pairwise (fun a b _ _ h1 h2 => cmpL_eq (by have := cmpL_anti a b; omega)) h1 h2 hp
theorem swoL {α : Type} (f : α → List Int) : Go.Sort.SWO (Go.Proofs.ltOf fun a b : α => cmpL (f a) (f b)) := by
  refine ⟨fun x => ?_,fun x y z h1 h2 => ?_,fun x y z h1 h2 => ?_⟩
  · simp [Go.Proofs.ltOf,cmpL_self]
  · simp only [Go.Proofs.ltOf,decide_eq_true_eq] at *
    have a1 := cmpL_anti (f x) (f z)
    have a2 := cmpL_anti (f x) (f y)
    have a3 := cmpL_anti (f y) (f z)
    have t1 := @cmpL_trans (f x) (f y) (f z) (by omega) (by omega)
    by_cases h0 : cmpL (f x) (f z) = 0
    · have e := cmpL_eq h0
      rw [e] at h1
      omega
    · omega
  · simp only [Go.Proofs.ltOf,decide_eq_false_iff_not] at *
    have a1 := cmpL_anti (f x) (f z)
    have a2 := cmpL_anti (f x) (f y)
    have a3 := cmpL_anti (f y) (f z)
    have := @cmpL_trans (f z) (f y) (f x) (by omega) (by omega)
    omega
end Go.Abs.Sp
