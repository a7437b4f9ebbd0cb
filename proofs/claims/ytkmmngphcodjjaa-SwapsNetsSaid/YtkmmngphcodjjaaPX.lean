/- A list turned into another one from the front; For the reference's trading: the list of best cards,those who leave,what they take. -/
import Derived.Test.YtkmmngphcodjjaaPV
namespace Go.Abs.Sp
def part (X D : List Int) (i : Nat) : List Int := X.take i ++ D.drop i
theorem part_len {X D : List Int} {n i : Nat} (hX : X.length = n) (hD : D.length = n) (hi : i ≤ n) : (part X D i).length = n := by simp [part]; omega
theorem part_zero {X D : List Int} : part X D 0 = D := by simp [part]
theorem part_all {X D : List Int} {n : Nat} (hX : X.length = n) (hD : D.length = n) : part X D n = X := by
  rw [part,List.take_of_length_le (by omega),List.drop_of_length_le (by omega),List.append_nil]
theorem part_set {X D : List Int} {n i : Nat} (hX : X.length = n) (hD : D.length = n) (hi : i < n) {v : Int} (hv : X.getD i 0 = v) : (part X D i).take i ++ [v] ++ (part X D i).drop (i + 1) = part X D (i + 1) := by
  have h1 : (X.take i).length = i := by simp; omega
  have h2 : X[i]? = some v := by rw [← hv,List.getD_eq_getElem?_getD,List.getElem?_eq_getElem (by omega)]; rfl
  have e1 : (part X D i).take i = X.take i := by rw [part,List.take_append_of_le_length (by omega),List.take_of_length_le (by omega)]
  have e2 : (part X D i).drop (i + 1) = D.drop (i + 1) := by
    rw [part,List.drop_append,List.drop_of_length_le (by omega),h1,List.nil_append,List.drop_drop]
    congr 1; omega
  rw [e1,e2,part,List.take_add_one,h2]; rfl
theorem part_skip {X D : List Int} {n i : Nat} (hX : X.length = n) (hD : D.length = n) (hi : i < n) (hv : X.getD i 0 = D.getD i 0) : part X D (i + 1) = part X D i := by
  have h2 : X[i]? = some (D.getD i 0) := by rw [← hv,List.getD_eq_getElem?_getD,List.getElem?_eq_getElem (by omega)]; rfl
  have h3 : D.drop i = D.getD i 0 :: D.drop (i + 1) := by
    rw [List.drop_eq_getElem_cons (by omega)]
    simp [List.getD_eq_getElem?_getD,List.getElem?_eq_getElem (show i < D.length by omega)]
  rw [part,part,List.take_add_one,h2,h3]; simp
def isLeft (w : List (List Int)) (R : List Int) (m : Int) : Prop := isSet m ∧ ∀ j : Nat,j < 6 → has m j = (decide (j < w.length) && alive R j)
theorem isLeft_zero {w : List (List Int)} (g : Good w) {R : List Int} {m : Int} (h : isLeft w R m) : m = 0 ↔ ¬ Some1 w R := by
  rw [set_zero h.1]
  constructor
  · rintro hz ⟨j,hj,ha⟩
    have := h.2 j (by have := g.n6; omega)
    rw [hz j (by have := g.n6; omega)] at this
    simp [hj,ha] at this
  · intro hn j hj
    rw [h.2 j hj]
    by_cases hjn : j < w.length
    · have : alive R j = false := by
        cases ha : alive R j with
        | false => rfl
        | true => exact absurd ⟨j,hjn,ha⟩ hn
      simp [this]
    · simp [hjn]
theorem best_left {w : List (List Int)} (g : Good w) {R : List Int} {m : Int} (h : isLeft w R m) {i : Nat} (hi : i < w.length) : bestAt w i m = best w R i := by
  have hm : w.getD i [] ∈ w := getD_mem hi
  unfold bestAt best
  have e : ∀ xs : List Int,(∀ c ∈ xs,0 ≤ c ∧ c < w.length) → idx (fun c => bitAt m c == 1) xs = idx (alive R) xs := by
    intro xs hxs
    induction xs with
    | nil => rfl
    | cons c r ih =>
      have hc := hxs c (by simp)
      have : (bitAt m c == 1) = alive R c := by
        obtain ⟨j,rfl⟩ : ∃ j : Nat,c = j := ⟨c.toNat,by omega⟩
        have := h.2 j (by have := g.n6; omega)
        rw [decide_eq_true (by omega),Bool.true_and] at this
        exact this
      unfold idx
      rw [this,ih fun c hc => hxs c (by simp [hc])]
  rw [e _ (g.rng _ hm)]
theorem some_bit {w : List (List Int)} (g : Good w) {R : List Int} {m : Int} (h : isLeft w R m) (ha : Some1 w R) {i : Nat} (hi : i < w.length) : ∃ c ∈ w.getD i [],(bitAt m c == 1) = true := by
  obtain ⟨j,hj,hja⟩ := ha
  refine ⟨j,g.cov _ (getD_mem hi) j hj,?_⟩
  have := h.2 j (by have := g.n6; omega)
  rw [hja,decide_eq_true hj,Bool.and_true] at this
  exact this
theorem left_step {w : List (List Int)} (_ : Good w) {R : List Int} {m lv round : Int} (hr : round ≠ 0) (h : isLeft w R m) (hl : isSet lv) (hv : ∀ j : Nat,j < 6 → has lv j = (decide (j < w.length) && leaves w R j)) : isLeft w (stepR w R round) (butI m lv) := by
  refine ⟨but_set h.1 hl,fun j hj => ?_⟩
  rw [has_but h.1 hl hj,h.2 j hj,hv j hj]
  by_cases hjn : j < w.length
  · rw [step_alive hr hjn]; simp [hjn]
  · simp [hjn]
theorem chase_self (f : Nat → Int) (i : Int) : ∀ k,chase f i k i = i
  | 0 => rfl
  | k + 1 => by simp [chase]
end Go.Abs.Sp
namespace Go.Abs.Sp
open AVal
def toL (w : List (List Int)) (R : List Int) : List Int := (List.range w.length).map fun i => best w R i
theorem toL_len (w : List (List Int)) (R : List Int) : (toL w R).length = w.length := by simp [toL]
theorem toL_get {w : List (List Int)} {R : List Int} {i : Nat} (h : i < w.length) : (toL w R).getD i 0 = best w R i := by simp [toL,List.getD_eq_getElem?_getD,h]
def pick (R : List Int) : List Int → Int
  | [] => 0
  | c :: r => if alive R c then c else pick R r
theorem pick_idx (R : List Int) : ∀ xs : List Int,0 ≤ idx (alive R) xs → pick R xs = xs.getD (idx (alive R) xs).toNat 0
  | [],h => by simp [idx] at h
  | c :: r,h => by
    unfold idx at h ⊢
    unfold pick
    by_cases hc : alive R c = true
    · simp [hc]
    · rw [if_neg hc] at h ⊢
      rw [if_neg hc]
      split at h
      · omega
      · rename_i h2
        rw [if_neg h2]
        have : (idx (alive R) r + 1).toNat = (idx (alive R) r).toNat + 1 := by omega
        rw [this,List.getD_cons_succ]
        exact pick_idx R r (by omega)
theorem pick_best {w : List (List Int)} (g : Good w) {R : List Int} (ha : Some1 w R) {i : Nat} (hi : i < w.length) : pick R (w.getD i []) = best w R i := by
  obtain ⟨j,hj,hja⟩ := ha
  exact pick_idx R _ (idx_pos ⟨(j : Int),g.cov _ (getD_mem hi) j hj,hja⟩)
theorem pick_drop {R xs : List Int} {k : Nat} (hk : k < xs.length) : pick R (xs.drop k) = if alive R (xs.getD k 0) then xs.getD k 0 else pick R (xs.drop (k + 1)) := by
  rw [List.drop_eq_getElem_cons hk]
  simp only [pick,List.getD_eq_getElem?_getD,List.getElem?_eq_getElem hk,Option.getD_some]
theorem put_set {l : List Int} {i : Nat} (h : i < l.length) (v : Int) : l.take i ++ [v] ++ l.drop (i + 1) = l.set i v := by
  rw [List.set_eq_take_append_cons_drop,if_pos h]; simp
theorem put_put {A : List Int} {i : Nat} (h : i < A.length) (u v : Int) : (A.take i ++ [u] ++ A.drop (i + 1)).take i ++ [v] ++ (A.take i ++ [u] ++ A.drop (i + 1)).drop (i + 1) = A.take i ++ [v] ++ A.drop (i + 1) := by
  rw [put_set h u,put_set (by simpa using h) v,put_set h v,List.set_set]
theorem put_len {A : List Int} {i : Nat} (h : i < A.length) (u : Int) : (A.take i ++ [u] ++ A.drop (i + 1)).length = A.length := by rw [put_set h u,List.length_set]
theorem part_id {X D : List Int} {n i : Nat} (hX : X.length = n) (hD : D.length = n) (hi : i < n) {v : Int} (hv : D.getD i 0 = v) : (part X D i).take i ++ [v] ++ (part X D i).drop (i + 1) = part X D i := by
  have h1 : (X.take i).length = i := by simp; omega
  have e1 : (part X D i).take i = X.take i := by rw [part,List.take_append_of_le_length (by omega),List.take_of_length_le (by omega)]
  have e2 : (part X D i).drop (i + 1) = D.drop (i + 1) := by
    rw [part,List.drop_append,List.drop_of_length_le (by omega),h1,List.nil_append,List.drop_drop]
    congr 1; omega
  have h3 : D.drop i = v :: D.drop (i + 1) := by
    rw [List.drop_eq_getElem_cons (by omega),← hv]
    simp [List.getD_eq_getElem?_getD,List.getElem?_eq_getElem (show i < D.length by omega)]
  rw [e1,e2,part,h3]; simp
def leavesL (w : List (List Int)) (R : List Int) (i : Nat) : List Int := ((List.range i).filter fun j => leaves w R j).map fun j : Nat => (j : Int)
theorem leavesL_succ (w : List (List Int)) (R : List Int) (i : Nat) : leavesL w R (i + 1) = leavesL w R i ++ if leaves w R i then [(i : Int)] else [] := by
  unfold leavesL
  rw [List.range_succ,List.filter_append,List.map_append]
  congr 1
  by_cases h : leaves w R i = true <;> simp [h]
theorem leavesL_mem {w : List (List Int)} {R : List Int} {i : Nat} {x : Int} : x ∈ leavesL w R i ↔ ∃ j : Nat,j < i ∧ leaves w R j = true ∧ x = j := by
  simp only [leavesL,List.mem_map,List.mem_filter,List.mem_range]
  constructor
  · rintro ⟨j,⟨h1,h2⟩,rfl⟩; exact ⟨j,h1,h2,rfl⟩
  · rintro ⟨j,h1,h2,rfl⟩; exact ⟨j,⟨h1,h2⟩,rfl⟩
theorem leavesL_len (w : List (List Int)) (R : List Int) (i : Nat) : (leavesL w R i).length ≤ i := by
  have := List.length_filter_le (fun j => leaves w R j) (List.range i)
  simp only [leavesL,List.length_map]; simpa using this
def upd (n : Nat) (P X D : List Int) : List Int := (List.range n).map fun j : Nat => if (j : Int) ∈ P then X.getD j 0 else D.getD j 0
theorem upd_len (n : Nat) (P X D : List Int) : (upd n P X D).length = n := by simp [upd]
theorem upd_nil {n : Nat} {X D : List Int} (h : D.length = n) : upd n [] X D = D := by
  simp only [upd,List.not_mem_nil,if_false]; exact map_range_getD D h
theorem upd_set {n : Nat} {P X D : List Int} {x : Nat} (hx : x < n) {v : Int} (hv : X.getD x 0 = v) : (upd n P X D).take x ++ [v] ++ (upd n P X D).drop (x + 1) = upd n (P ++ [(x : Int)]) X D := by
  rw [put_set (by rw [upd_len]; exact hx)]
  apply List.ext_getElem?
  intro i
  rw [List.getElem?_set]
  by_cases hi : i < n
  · simp only [upd,List.getElem?_map,List.getElem?_range hi,Option.map_some,List.length_map,List.length_range]
    by_cases hxi : x = i
    · subst hxi; rw [← hv]; simp [hi]
    · rw [if_neg hxi]
      have : ((i : Int) ∈ P ++ [(x : Int)]) ↔ (i : Int) ∈ P := by simp; omega
      simp only [this]
  · rw [if_neg (by omega),List.getElem?_eq_none (by rw [upd_len]; omega),List.getElem?_eq_none (by rw [upd_len]; omega)]
theorem upd_all {w : List (List Int)} {R X D : List Int} : upd w.length (leavesL w R w.length) X D = (List.range w.length).map fun i => if leaves w R i then X.getD i 0 else D.getD i 0 := by
  unfold upd
  apply List.map_congr_left
  intro i hi
  have hi := List.mem_range.1 hi
  have : ((i : Int) ∈ leavesL w R w.length) ↔ leaves w R i = true := by
    rw [leavesL_mem]
    constructor
    · rintro ⟨j,_,h,e⟩
      have : i = j := by omega
      subst this; exact h
    · intro h; exact ⟨i,hi,h,rfl⟩
  simp only [this]
theorem upd_D {w : List (List Int)} {R D : List Int} : upd w.length (leavesL w R w.length) (toL w R) D = stepD w R D := by
  rw [upd_all,stepD]
  apply List.map_congr_left
  intro i hi
  rw [toL_get (List.mem_range.1 hi)]
theorem upd_R {w : List (List Int)} {R : List Int} {r : Int} : upd w.length (leavesL w R w.length) (List.replicate w.length r) R = stepR w R r := by
  rw [upd_all,stepR]
  apply List.map_congr_left
  intro i hi
  have := List.mem_range.1 hi
  simp [List.getD_eq_getElem?_getD,this]
theorem left_count {w : List (List Int)} {R : List Int} {r : Int} (hr : r ≠ 0) : left w (stepR w R r) + (leavesL w R w.length).length = left w R := by
  have e1 : left w (stepR w R r) = (List.range w.length).countP fun i : Nat => alive R i && !leaves w R i := by
    unfold left
    apply List.countP_congr
    intro i hi
    rw [step_alive hr (List.mem_range.1 hi)]
  have e2 : (leavesL w R w.length).length = (List.range w.length).countP fun i => leaves w R i := by
    simp [leavesL,List.countP_eq_length_filter]
  rw [e1,e2]
  unfold left
  generalize List.range w.length = L
  induction L with
  | nil => rfl
  | cons a L ih =>
    simp only [List.countP_cons]
    have : leaves w R a = true → alive R (a : Int) = true := fun h => by unfold leaves at h; rw [Bool.and_eq_true] at h; exact h.1
    cases h1 : leaves w R a <;> cases h2 : alive R (a : Int) <;> simp_all <;> omega
theorem left_start (w : List (List Int)) : left w (st w 0).2 = w.length := by
  unfold left
  rw [show (st w 0).2 = List.replicate w.length 0 from rfl]
  rw [List.countP_eq_length.2]
  · simp
  · intro i hi
    have := List.mem_range.1 hi
    simp [alive,List.getD_eq_getElem?_getD,this]
end Go.Abs.Sp
