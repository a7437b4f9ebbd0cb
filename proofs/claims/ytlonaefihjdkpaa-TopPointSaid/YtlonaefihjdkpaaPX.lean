/- A list turned into another one from the front; For the reference's trading: the list of best cards,those who leave,what they take. -/
import Derived.Test.YtlonaefihjdkpaaPV
namespace Go.Abs.Sp
def part (X D : List Int) (i : Nat) : List Int := X.take i ++ D.drop i
theorem part_len {X D : List Int} {n i : Nat} (hX : X.length = n) (hD : D.length = n) (hi : i ≤ n) : (part X D i).length = n := by simp [part]; omega
theorem part_zero {X D : List Int} : part X D 0 = D := by simp [part]
theorem part_all {X D : List Int} {n : Nat} (hX : X.length = n) (hD : D.length = n) : part X D n = X := by
  rw [part,List.take_of_length_le (by omega),List.drop_of_length_le (by omega),List.append_nil]
theorem part_set {X D : List Int} {n i : Nat} (hX : X.length = n) (hD : D.length = n) (hi : i < n) {v : Int} (hv : X.getD i 0 = v) : (part X D i).take i ++ [v] ++ (part X D i).drop (i + 1) = part X D (i + 1) := by
  have h1 : (X.take i).length = i := by simp; omega
  have h2 : X[i]? = some v := by rw [← hv,List.getD_eq_getElem?_getD,List.getElem?_eq_getElem (by omega)]; rfl
  have e1 : (part X D i).take i = X.take i := by rw [part,List.take_append_of_le_length (by omega),List.take_of_length_le (by omega)]
  have e2 : (part X D i).drop (i + 1) = D.drop (i + 1) := by
    rw [part,List.drop_append,List.drop_of_length_le (by omega),h1,List.nil_append,List.drop_drop]
    congr 1; omega
  rw [e1,e2,part,List.take_add_one,h2]; rfl
theorem part_skip {X D : List Int} {n i : Nat} (hX : X.length = n) (hD : D.length = n) (hi : i < n) (hv : X.getD i 0 = D.getD i 0) : part X D (i + 1) = part X D i := by
  have h2 : X[i]? = some (D.getD i 0) := by rw [← hv,List.getD_eq_getElem?_getD,List.getElem?_eq_getElem (by omega)]; rfl
  have h3 : D.drop i = D.getD i 0 :: D.drop (i + 1) := by
    rw [List.drop_eq_getElem_cons (by omega)]
    simp [List.getD_eq_getElem?_getD,List.getElem?_eq_getElem (show i < D.length by omega)]
  rw [part,part,List.take_add_one,h2,h3]; simp
def isLeft (w : List (List Int)) (R : List Int) (m : Int) : Prop := isSet m ∧ ∀ j : Nat,j < 6 → has m j = (decide (j < w.length) && alive R j)
theorem isLeft_zero {w : List (List Int)} (g : Good w) {R : List Int} {m : Int} (h : isLeft w R m) : m = 0 ↔ ¬ Some1 w R := by
  rw [set_zero h.1]
  constructor
  · rintro hz ⟨j,hj,ha⟩
    have := h.2 j (by have := g.n6; omega)
    rw [hz j (by have := g.n6; omega)] at this
    simp [hj,ha] at this
  · intro hn j hj
    rw [h.2 j hj]
    by_cases hjn : j < w.length
    · have : alive R j = false := by
        cases ha : alive R j with
        | false => rfl
        | true => exact absurd ⟨j,hjn,ha⟩ hn
      simp [this]
    · simp [hjn]
theorem best_left {w : List (List Int)} (g : Good w) {R : List Int} {m : Int} (h : isLeft w R m) {i : Nat} (hi : i < w.length) : bestAt w i m = best w R i := by
  have hm : w.getD i [] ∈ w := getD_mem hi
  unfold bestAt best
  have e : ∀ xs : List Int,(∀ c ∈ xs,0 ≤ c ∧ c < w.length) → idx (fun c => bitAt m c == 1) xs = idx (alive R) xs := by
    intro xs hxs
    induction xs with
    | nil => rfl
    | cons c r ih =>
      have hc := hxs c (by simp)
      have : (bitAt m c == 1) = alive R c := by
        obtain ⟨j,rfl⟩ : ∃ j : Nat,c = j := ⟨c.toNat,by omega⟩
        have := h.2 j (by have := g.n6; omega)
        rw [decide_eq_true (by omega),Bool.true_and] at this
        exact this
      unfold idx
      rw [this,ih fun c hc => hxs c (by simp [hc])]
  rw [e _ (g.rng _ hm)]
theorem some_bit {w : List (List Int)} (g : Good w) {R : List Int} {m : Int} (h : isLeft w R m) (ha : Some1 w R) {i : Nat} (hi : i < w.length) : ∃ c ∈ w.getD i [],(bitAt m c == 1) = true := by
  obtain ⟨j,hj,hja⟩ := ha
  refine ⟨j,g.cov _ (getD_mem hi) j hj,?_⟩
  have := h.2 j (by have := g.n6; omega)
  rw [hja,decide_eq_true hj,Bool.and_true] at this
  exact this
theorem left_step {w : List (List Int)} (_ : Good w) {R : List Int} {m lv round : Int} (hr : round ≠ 0) (h : isLeft w R m) (hl : isSet lv) (hv : ∀ j : Nat,j < 6 → has lv j = (decide (j < w.length) && leaves w R j)) : isLeft w (stepR w R round) (butI m lv) := by
  refine ⟨but_set h.1 hl,fun j hj => ?_⟩
  rw [has_but h.1 hl hj,h.2 j hj,hv j hj]
  by_cases hjn : j < w.length
  · rw [step_alive hr hjn]; simp [hjn]
  · simp [hjn]
theorem chase_self (f : Nat → Int) (i : Int) : ∀ k,chase f i k i = i
  | 0 => rfl
  | k + 1 => by simp [chase]
end Go.Abs.Sp
namespace Go.Abs.Sp
open AVal
def pick (R : List Int) : List Int → Int
  | [] => 0
  | c :: r => if alive R c then c else pick R r
end Go.Abs.Sp
