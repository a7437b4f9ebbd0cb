/- Trading in circles,plain: the rounds,and that somebody leaves in each; Small sets as numbers: bits of numbers below 64; Valid wishes,plain: the program's question and the reference's are one. -/
import Derived.Test.YtlonaefihjdkpaaSP
namespace Go.Abs.Sp
structure Good (w : List (List Int)) : Prop where
  n1 : 1 ≤ w.length
  n6 : w.length ≤ 6
  rng : ∀ l ∈ w,∀ c ∈ l,0 ≤ c ∧ c < w.length
  cov : ∀ l ∈ w,∀ j : Nat,j < w.length → (j : Int) ∈ l
  len : ∀ l ∈ w,l.length = w.length
def alive (R : List Int) (c : Int) : Bool := R.getD c.toNat 0 == 0
def best (w : List (List Int)) (R : List Int) (i : Nat) : Int := (w.getD i []).getD (idx (alive R) (w.getD i [])).toNat 0
def chase (f : Nat → Int) (i : Int) : Nat → Int → Int
  | 0,a => a
  | k + 1,a => if a = i then a else chase f i k (f a.toNat)
def leaves (w : List (List Int)) (R : List Int) (i : Nat) : Bool := alive R i && chase (best w R) i w.length (best w R i) == i
def stepR (w : List (List Int)) (R : List Int) (round : Int) : List Int := (List.range w.length).map fun i => if leaves w R i then round else R.getD i 0
def stepD (w : List (List Int)) (R D : List Int) : List Int := (List.range w.length).map fun i => if leaves w R i then best w R i else D.getD i 0
def st (w : List (List Int)) : Nat → List Int × List Int
  | 0 => (List.replicate w.length 0,List.replicate w.length 0)
  | k + 1 => (stepD w (st w k).2 (st w k).1,stepR w (st w k).2 (k + 1))
def fin (w : List (List Int)) : List Int × List Int := st w w.length
theorem st_len (w : List (List Int)) : ∀ k,(st w k).1.length = w.length ∧ (st w k).2.length = w.length
  | 0 => by simp [st]
  | k + 1 => by simp [st,stepD,stepR]
theorem idx_get {α : Type} {p : α → Bool} {d : α} : ∀ {xs : List α},0 ≤ idx p xs → p (xs.getD (idx p xs).toNat d) = true
  | [],h => by simp [idx] at h
  | x :: r,h => by
    unfold idx at h ⊢
    by_cases hx : p x = true
    · simp [hx]
    · rw [if_neg hx] at h ⊢
      split at h
      · omega
      · rename_i h2
        rw [if_neg h2]
        have : (idx p r + 1).toNat = (idx p r).toNat + 1 := by omega
        rw [this,List.getD_cons_succ]
        exact idx_get (by omega)
theorem getD_mem {α : Type} {xs : List α} {i : Nat} {d : α} (h : i < xs.length) : xs.getD i d ∈ xs := by
  rw [List.getD_eq_getElem?_getD,List.getElem?_eq_getElem h]; exact List.getElem_mem h
def Some1 (w : List (List Int)) (R : List Int) : Prop := ∃ j : Nat,j < w.length ∧ alive R j = true
theorem best_spec {w : List (List Int)} (g : Good w) {R : List Int} (ha : Some1 w R) {i : Nat} (hi : i < w.length) : 0 ≤ best w R i ∧ best w R i < w.length ∧ alive R (best w R i) = true := by
  obtain ⟨j,hj,hja⟩ := ha
  have hm : w.getD i [] ∈ w := getD_mem hi
  have h0 := idx_pos (p := alive R) ⟨(j : Int),g.cov _ hm j hj,hja⟩
  have h1 := (idx_lt (alive R) (w.getD i [])).2
  have h2 : (idx (alive R) (w.getD i [])).toNat < (w.getD i []).length := by omega
  have h3 := g.rng _ hm _ (getD_mem (d := 0) h2)
  exact ⟨h3.1,h3.2,idx_get h0⟩
def itI (f : Nat → Int) : Nat → Int → Int
  | 0,a => a
  | m + 1,a => itI f m (f a.toNat)
theorem itI_succ (f : Nat → Int) : ∀ (m : Nat) (a : Int),itI f (m + 1) a = f (itI f m a).toNat
  | 0,_ => rfl
  | m + 1,a => itI_succ f m (f a.toNat)
theorem itI_add (f : Nat → Int) (k : Nat) : ∀ (m : Nat) (a : Int),itI f (m + k) a = itI f k (itI f m a)
  | 0,a => by simp [itI]
  | m + 1,a => by rw [Nat.add_right_comm]; exact itI_add f k m (f a.toNat)
theorem chase_hit (f : Nat → Int) (i : Int) : ∀ (k m : Nat) (a : Int),itI f m a = i → m ≤ k → chase f i k a = i
  | 0,m,a,h,hm => by
    have : m = 0 := by omega
    subst this; exact h
  | k + 1,m,a,h,hm => by
    unfold chase
    split
    · assumption
    · rename_i hne
      cases m with
      | zero => exact absurd h hne
      | succ m => exact chase_hit f i k m _ h (by omega)
theorem pigeon : ∀ (n : Nat) (g : Nat → Nat),(∀ k,k ≤ n → g k < n) → ∃ a b,a < b ∧ b ≤ n ∧ g a = g b
  | 0,g,h => absurd (h 0 (Nat.le_refl _)) (by omega)
  | n + 1,g,h => by
    by_cases hl : ∃ a,a < n + 1 ∧ g a = g (n + 1)
    · obtain ⟨a,h1,h2⟩ := hl; exact ⟨a,n + 1,h1,Nat.le_refl _,h2⟩
    · -- drop the value of the last one
      obtain ⟨a,b,h1,h2,h3⟩ := pigeon n (fun k => if g k = n then g (n + 1) else g k) fun k hk => by
        have hk1 := h k (by omega)
        have hk2 := h (n + 1) (Nat.le_refl _)
        have hk3 : g k ≠ g (n + 1) := fun e => hl ⟨k,by omega,e⟩
        show (if g k = n then g (n + 1) else g k) < n
        split <;> omega
      have ha3 : g a ≠ g (n + 1) := fun e => hl ⟨a,by omega,e⟩
      have hb3 : g b ≠ g (n + 1) := fun e => hl ⟨b,by omega,e⟩
      refine ⟨a,b,h1,by omega,?_⟩
      split at h3 <;> split at h3 <;> omega
theorem some_leaves {w : List (List Int)} (g : Good w) {R : List Int} (ha : Some1 w R) : ∃ i,i < w.length ∧ leaves w R i = true := by
  have hb := fun {i : Nat} (hi : i < w.length) => best_spec g ha hi
  obtain ⟨j,hj,hja⟩ := ha
  have hin : ∀ k,0 ≤ itI (best w R) k j ∧ itI (best w R) k j < w.length ∧ alive R (itI (best w R) k j) = true := by
    intro k
    induction k with
    | zero => exact ⟨by simp [itI],by simpa [itI] using hj,hja⟩
    | succ k ih =>
      rw [itI_succ]
      exact hb (by omega)
  obtain ⟨a,b,h1,h2,h3⟩ := pigeon w.length (fun k => (itI (best w R) k j).toNat) fun k _ => by have := hin k; omega
  have ha' := hin a
  have hb' := hin b
  refine ⟨(itI (best w R) a j).toNat,by omega,?_⟩
  have hx : ((itI (best w R) a j).toNat : Int) = itI (best w R) a j := by omega
  unfold leaves
  rw [hx,ha'.2.2,Bool.true_and,beq_iff_eq]
  refine chase_hit _ _ _ (b - a - 1) _ ?_ (by omega)
  have e1 : itI (best w R) (b - a - 1) (best w R (itI (best w R) a j).toNat) = itI (best w R) (b - a - 1 + 1) (itI (best w R) a j) := rfl
  rw [e1,show b - a - 1 + 1 = b - a by omega,← itI_add,show a + (b - a) = b by omega]
  omega
def zeros (R : List Int) : Nat := R.countP (· == 0)
theorem leaves_alive {w : List (List Int)} {R : List Int} {i : Nat} (h : leaves w R i = true) : R.getD i 0 = 0 := by
  unfold leaves alive at h
  simp at h
  simpa using h.1
theorem map_range_getD (R : List Int) {n : Nat} (h : R.length = n) : (List.range n).map (fun i => R.getD i 0) = R := by
  subst h
  apply List.ext_getElem?
  intro i
  by_cases hi : i < R.length
  · simp [hi]
  · rw [List.getElem?_eq_none (by simp; omega),List.getElem?_eq_none (by omega)]
theorem st_done {w : List (List Int)} {k : Nat} (h : ¬ Some1 w (st w k).2) : st w (k + 1) = st w k := by
  have hno : ∀ i,i < w.length → leaves w (st w k).2 i = false := fun i hi => by
    by_cases hl : leaves w (st w k).2 i = true
    · exact absurd ⟨i,hi,by have := leaves_alive hl; simpa [alive] using this⟩ h
    · simpa using hl
  have hl := st_len w k
  show (stepD w (st w k).2 (st w k).1,stepR w (st w k).2 (k + 1)) = st w k
  have e1 : stepD w (st w k).2 (st w k).1 = (st w k).1 := by
    rw [stepD,List.map_congr_left (g := fun i => (st w k).1.getD i 0) fun i hi => by rw [hno i (List.mem_range.1 hi)]; rfl]
    exact map_range_getD _ hl.1
  have e2 : stepR w (st w k).2 (k + 1) = (st w k).2 := by
    rw [stepR,List.map_congr_left (g := fun i => (st w k).2.getD i 0) fun i hi => by rw [hno i (List.mem_range.1 hi)]; rfl]
    exact map_range_getD _ hl.2
  rw [e1,e2]
theorem countP_lt {f g : Nat → Bool} : ∀ (n : Nat),(∀ i,i < n → f i = true → g i = true) → (∃ i,i < n ∧ g i = true ∧ f i = false) → (List.range n).countP f < (List.range n).countP g
  | 0,_,⟨i,hi,_⟩ => absurd hi (by omega)
  | n + 1,h,⟨i,hi,h1,h2⟩ => by
    have le : ∀ m,(∀ i,i < m → f i = true → g i = true) → (List.range m).countP f ≤ (List.range m).countP g := fun m hm => by
      induction m with
      | zero => simp
      | succ m ih =>
        rw [List.range_succ,List.countP_append,List.countP_append]
        have := ih fun i hi => hm i (by omega)
        have : [m].countP f ≤ [m].countP g := by
          simp only [List.countP_singleton]
          have := hm m (by omega)
          cases hf : f m <;> cases hg : g m <;> simp_all
        omega
    rw [List.range_succ,List.countP_append,List.countP_append]
    by_cases hin : i < n
    · have := countP_lt n (fun i hi => h i (by omega)) ⟨i,hin,h1,h2⟩
      have : [n].countP f ≤ [n].countP g := by
        simp only [List.countP_singleton]
        have := h n (by omega)
        cases hf : f n <;> cases hg : g n <;> simp_all
      omega
    · have : i = n := by omega
      subst this
      have := le i fun j hj => h j (by omega)
      have : [i].countP f < [i].countP g := by simp [h1,h2]
      omega
def left (w : List (List Int)) (R : List Int) : Nat := (List.range w.length).countP fun i : Nat => alive R (i : Int)
theorem step_alive {w : List (List Int)} {R : List Int} {round : Int} (hr : round ≠ 0) {i : Nat} (hi : i < w.length) : alive (stepR w R round) i = (alive R i && !leaves w R i) := by
  have e : (stepR w R round).getD i 0 = if leaves w R i then round else R.getD i 0 := by
    simp [stepR,List.getD_eq_getElem?_getD,hi]
  unfold alive
  rw [show ((i : Int)).toNat = i from rfl,e]
  cases h : leaves w R i with
  | true => simp [hr]
  | false => simp
theorem left_lt {w : List (List Int)} (g : Good w) {R : List Int} {round : Int} (hr : round ≠ 0) (ha : Some1 w R) : left w (stepR w R round) < left w R := by
  obtain ⟨i,hi,hl⟩ := some_leaves g ha
  refine countP_lt _ (fun j hj h => ?_) ⟨i,hi,?_,?_⟩
  · rw [step_alive hr hj,Bool.and_eq_true] at h; exact h.1
  · unfold leaves at hl; rw [Bool.and_eq_true] at hl; exact hl.1
  · rw [step_alive hr hi,hl]; simp
theorem left_zero {w : List (List Int)} {R : List Int} : left w R = 0 ↔ ¬ Some1 w R := by
  unfold left Some1
  rw [List.countP_eq_zero]
  constructor
  · rintro h ⟨j,hj,ha⟩; exact h j (List.mem_range.2 hj) ha
  · intro h j hj ha; exact h ⟨j,List.mem_range.1 hj,ha⟩
theorem left_le {w : List (List Int)} (g : Good w) : ∀ k,left w (st w k).2 ≤ w.length - k
  | 0 => by
    have : left w (st w 0).2 ≤ (List.range w.length).length := List.countP_le_length
    simpa using this
  | k + 1 => by
    have ih := left_le g k
    by_cases ha : Some1 w (st w k).2
    · have : left w (stepR w (st w k).2 (k + 1)) < left w (st w k).2 := left_lt g (by omega) ha
      show left w (stepR w (st w k).2 (k + 1)) ≤ _
      omega
    · rw [st_done ha,left_zero.2 ha]; omega
end Go.Abs.Sp
namespace Go.Abs.Sp
def isSet (m : Int) : Prop := 0 ≤ m ∧ m < 64
def has (m : Int) (j : Nat) : Bool := bitAt m j == 1
theorem allSets {p : Int → Prop} (h : ∀ k : Nat,k < 64 → p k) {m : Int} (hm : isSet m) : p m := by
  have := h m.toNat (by have := hm.1; have := hm.2; omega)
  rwa [Int.toNat_of_nonneg hm.1] at this
set_option maxRecDepth 100000 in
theorem or_dec : ∀ k : Nat,k < 64 → ∀ i : Nat,i < 6 → (0 ≤ orI k (shl1 i) ∧ orI k (shl1 i) < 64) ∧ ∀ j : Nat,j < 6 → has (orI k (shl1 i)) j = (has k j || decide (j = i)) := by decide +kernel
theorem or_set {m : Int} (hm : isSet m) {i : Nat} (hi : i < 6) : isSet (orI m (shl1 i)) := (allSets (p := fun m => ∀ i : Nat,i < 6 → (0 ≤ orI m (shl1 i) ∧ orI m (shl1 i) < 64) ∧ ∀ j : Nat,j < 6 → has (orI m (shl1 i)) j = (has m j || decide (j = i))) or_dec hm i hi).1
theorem has_or {m : Int} (hm : isSet m) {i : Nat} (hi : i < 6) {j : Nat} (hj : j < 6) : has (orI m (shl1 i)) j = (has m j || decide (j = i)) := (allSets (p := fun m => ∀ i : Nat,i < 6 → (0 ≤ orI m (shl1 i) ∧ orI m (shl1 i) < 64) ∧ ∀ j : Nat,j < 6 → has (orI m (shl1 i)) j = (has m j || decide (j = i))) or_dec hm i hi).2 j hj
def butI (x y : Int) : Int := bitsI .andNot .i64 x y
set_option maxRecDepth 100000 in
theorem but_dec : ∀ k : Nat,k < 64 → ∀ i : Nat,i < 64 → (0 ≤ butI k i ∧ butI k i < 64) ∧ ∀ j : Nat,j < 6 → has (butI k i) j = (has k j && !has i j) := by decide +kernel
theorem but_set {m k : Int} (hm : isSet m) (hk : isSet k) : isSet (butI m k) := by
  have h1 := but_dec m.toNat (by have := hm.1; have := hm.2; omega) k.toNat (by have := hk.1; have := hk.2; omega)
  rw [Int.toNat_of_nonneg hm.1,Int.toNat_of_nonneg hk.1] at h1; exact h1.1
theorem has_but {m k : Int} (hm : isSet m) (hk : isSet k) {j : Nat} (hj : j < 6) : has (butI m k) j = (has m j && !has k j) := by
  have h1 := but_dec m.toNat (by have := hm.1; have := hm.2; omega) k.toNat (by have := hk.1; have := hk.2; omega)
  rw [Int.toNat_of_nonneg hm.1,Int.toNat_of_nonneg hk.1] at h1; exact h1.2 j hj
theorem full_dec : ∀ n : Nat,n < 7 → isSet (IntKind.i64.wrap (shl1 n - 1)) ∧ ∀ j : Nat,j < 6 → has (IntKind.i64.wrap (shl1 n - 1)) j = decide (j < n) := by unfold isSet; decide +kernel
end Go.Abs.Sp
namespace Go.Abs.Sp
def pc (m : Int) : Nat := (List.range 6).countP fun j => has m j
theorem set0 : isSet 0 := ⟨by decide,by decide⟩
theorem has0 : ∀ j : Nat,j < 6 → has 0 j = false := by decide +kernel
end Go.Abs.Sp
