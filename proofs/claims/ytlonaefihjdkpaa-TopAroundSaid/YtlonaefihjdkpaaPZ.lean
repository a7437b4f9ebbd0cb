/- Trading in circles,plain: when each one leaves,and with what; Trading in circles,plain: nobody does better with other wishes. -/
import Derived.Test.YtlonaefihjdkpaaPX
namespace Go.Abs.Sp
theorem chase_eq (f : Nat → Int) (i : Int) : ∀ (k : Nat) (a : Int),chase f i k a = i → ∃ m,m ≤ k ∧ itI f m a = i
  | 0,a,h => ⟨0,Nat.le_refl _,h⟩
  | k + 1,a,h => by
    unfold chase at h
    split at h
    · exact ⟨0,Nat.zero_le _,h⟩
    · obtain ⟨m,h1,h2⟩ := chase_eq f i k _ h
      exact ⟨m + 1,by omega,h2⟩
theorem leaves_iff {w : List (List Int)} {R : List Int} {i : Nat} : leaves w R i = true ↔ alive R i = true ∧ ∃ m,m ≤ w.length ∧ itI (best w R) m (best w R i) = i := by
  unfold leaves
  rw [Bool.and_eq_true,beq_iff_eq]
  constructor
  · rintro ⟨h1,h2⟩; exact ⟨h1,chase_eq _ _ _ _ h2⟩
  · rintro ⟨h1,m,h2,h3⟩; exact ⟨h1,chase_hit _ _ _ _ _ h3 h2⟩
theorem leaves_best {w : List (List Int)} (g : Good w) {R : List Int} {i : Nat} (hi : i < w.length) (h : leaves w R i = true) : leaves w R (best w R i).toNat = true := by
  obtain ⟨h1,m,h2,h3⟩ := leaves_iff.1 h
  have hb := best_spec g ⟨i,hi,h1⟩ hi
  have hx : ((best w R i).toNat : Int) = best w R i := by omega
  refine leaves_iff.2 ⟨by rw [hx]; exact hb.2.2,m,h2,?_⟩
  have e : itI (best w R) m (best w R (best w R i).toNat) = itI (best w R) (m + 1) (best w R i) := rfl
  rw [e,itI_succ,h3,hx,Int.toNat_natCast]
theorem stepR_get {w : List (List Int)} {R : List Int} {r : Int} {i : Nat} (hi : i < w.length) : (stepR w R r).getD i 0 = if leaves w R i then r else R.getD i 0 := by simp [stepR,List.getD_eq_getElem?_getD,hi]
theorem stepD_get {w : List (List Int)} {R D : List Int} {i : Nat} (hi : i < w.length) : (stepD w R D).getD i 0 = if leaves w R i then best w R i else D.getD i 0 := by simp [stepD,List.getD_eq_getElem?_getD,hi]
def goes (w : List (List Int)) (i k : Nat) : Prop :=
  leaves w (st w k).2 i = true ∧ (∀ m,m ≤ k → (st w m).2.getD i 0 = 0) ∧ ∀ m,k < m → (st w m).2.getD i 0 = k + 1 ∧ (st w m).1.getD i 0 = best w (st w k).2 i
theorem zero_get (n i : Nat) : (List.replicate n (0 : Int)).getD i 0 = 0 := by
  rw [List.getD_eq_getElem?_getD,List.getElem?_replicate]; split <;> rfl
theorem goes_some {w : List (List Int)} (g : Good w) {i : Nat} (hi : i < w.length) : ∃ k,k < w.length ∧ goes w i k := by
  have hend : (st w w.length).2.getD i 0 ≠ 0 := fun h => by
    have h2 : ¬ Some1 w (st w w.length).2 := left_zero.1 (by have := left_le g w.length; omega)
    exact h2 ⟨i,hi,by simp only [alive,Int.toNat_natCast,h]; rfl⟩
  have first : ∀ n,(st w n).2.getD i 0 ≠ 0 → ∃ k,k < n ∧ leaves w (st w k).2 i = true ∧ ∀ m,m ≤ k → (st w m).2.getD i 0 = 0 := by
    intro n
    induction n with
    | zero => intro h; exact absurd (zero_get _ _) h
    | succ n ih =>
      intro h
      by_cases hz : (st w n).2.getD i 0 = 0
      · refine ⟨n,by omega,?_,?_⟩
        · have h' : (stepR w (st w n).2 (n + 1)).getD i 0 ≠ 0 := h
          rw [stepR_get hi,hz] at h'
          split at h'
          · assumption
          · exact absurd rfl h'
        · intro m hm
          refine Classical.byContradiction fun hne => ?_
          have stay : ∀ d,(st w (m + d)).2.getD i 0 ≠ 0 := by
            intro d
            induction d with
            | zero => exact hne
            | succ d ihd =>
              show (stepR w (st w (m + d)).2 (↑(m + d) + 1)).getD i 0 ≠ 0
              rw [stepR_get hi]
              split
              · omega
              · exact ihd
          have := stay (n - m)
          rw [show m + (n - m) = n by omega] at this
          exact this hz
      · obtain ⟨k,h1,h2⟩ := ih hz
        exact ⟨k,by omega,h2⟩
  obtain ⟨k,hk,h1,h2⟩ := first _ hend
  refine ⟨k,hk,h1,h2,?_⟩
  have later : ∀ d,(st w (k + 1 + d)).2.getD i 0 = k + 1 ∧ (st w (k + 1 + d)).1.getD i 0 = best w (st w k).2 i := by
    intro d
    induction d with
    | zero =>
      constructor
      · show (stepR w (st w k).2 (k + 1)).getD i 0 = _
        rw [stepR_get hi,h1]; rfl
      · show (stepD w (st w k).2 (st w k).1).getD i 0 = _
        rw [stepD_get hi,h1]; rfl
    | succ d ih =>
      have hno : leaves w (st w (k + 1 + d)).2 i = false := by
        cases hl : leaves w (st w (k + 1 + d)).2 i with
        | false => rfl
        | true => have := leaves_alive hl; rw [ih.1] at this; omega
      constructor
      · show (stepR w (st w (k + 1 + d)).2 (↑(k + 1 + d) + 1)).getD i 0 = _
        rw [stepR_get hi,hno]; exact ih.1
      · show (stepD w (st w (k + 1 + d)).2 (st w (k + 1 + d)).1).getD i 0 = _
        rw [stepD_get hi,hno]; exact ih.2
  intro m hm
  have := later (m - (k + 1))
  rwa [show k + 1 + (m - (k + 1)) = m by omega] at this
theorem goes_fin {w : List (List Int)} {i k : Nat} (hk : k < w.length) (h : goes w i k) : (fin w).2.getD i 0 = k + 1 ∧ (fin w).1.getD i 0 = best w (st w k).2 i := h.2.2 _ hk
theorem goes_of {w : List (List Int)} (g : Good w) {i k : Nat} (hi : i < w.length) (h : leaves w (st w k).2 i = true) : k < w.length ∧ goes w i k := by
  obtain ⟨k',hk',hg⟩ := goes_some g hi
  have hz := leaves_alive h
  have : k = k' := by
    rcases Nat.lt_trichotomy k k' with hlt | he | hlt
    · have hz1 := hg.2.1 (k + 1) (by omega)
      have e : (st w (k + 1)).2.getD i 0 = (stepR w (st w k).2 (k + 1)).getD i 0 := rfl
      rw [e,stepR_get hi,h,if_pos rfl] at hz1
      omega
    · exact he
    · have := (hg.2.2 k hlt).1; omega
  subst this; exact ⟨hk',hg⟩
theorem alive_iff {w : List (List Int)} {j k' : Nat} (h : goes w j k') (k : Nat) : alive (st w k).2 j = true ↔ k ≤ k' := by
  unfold alive
  rw [Int.toNat_natCast,beq_iff_eq]
  constructor
  · intro hz
    rcases Nat.lt_or_ge k' k with hlt | hge
    · have := (h.2.2 k hlt).1; omega
    · exact hge
  · exact h.2.1 k
/-! ### What is said of the rounds -/
structure Round (w : List (List Int)) (i : Nat) where
  k : Nat
  t : Nat
  hk : k < w.length
  ht : t < w.length
  go : goes w i k
  bt : best w (st w k).2 i = t
  r : (fin w).2.getD i 0 = k + 1
  d : (fin w).1.getD i 0 = t
  same : (fin w).2.getD t 0 = k + 1
theorem round_of {w : List (List Int)} (g : Good w) {i : Nat} (hi : i < w.length) : Nonempty (Round w i) := by
  obtain ⟨k,hk,hg⟩ := goes_some g hi
  have ha : alive (st w k).2 i = true := (alive_iff hg k).2 (Nat.le_refl _)
  have hb := best_spec g ⟨i,hi,ha⟩ hi
  have hx : ((best w (st w k).2 i).toNat : Int) = best w (st w k).2 i := by omega
  have ht : (best w (st w k).2 i).toNat < w.length := by omega
  have hl := leaves_best g hi hg.1
  exact ⟨⟨k,_,hk,ht,hg,hx.symm,(goes_fin hk hg).1,by rw [(goes_fin hk hg).2,hx],(goes_fin hk (goes_of g ht hl).2).1⟩⟩
/-! ### Where a card stands -/
def pos (w : List (List Int)) (i : Nat) (c : Int) : Int := idx (fun x => x == c) (w.getD i [])
end Go.Abs.Sp
namespace Go.Abs.Sp
structure Alike (w w' : List (List Int)) (i : Nat) : Prop where
  len : w'.length = w.length
  row : ∀ j,j ≠ i → w'.getD j [] = w.getD j []
theorem Alike.symm {w w' : List (List Int)} {i : Nat} (h : Alike w w' i) : Alike w' w i := ⟨h.len.symm,fun j hj => (h.row j hj).symm⟩
theorem stays {w : List (List Int)} (g : Good w) {j p q : Nat} (hj : j < w.length) (ha : alive (st w p).2 j = true) (h : ∀ m,p ≤ m → m < q → leaves w (st w m).2 j = false) : alive (st w q).2 j = true := by
  obtain ⟨c⟩ := round_of g hj
  refine (alive_iff c.go q).2 ?_
  have h1 := (alive_iff c.go p).1 ha
  rcases Nat.lt_or_ge c.k q with hlt | hge
  · have := h c.k h1 hlt
    rw [c.go.1] at this; cases this
  · exact hge
/-! ### The lie -/
end Go.Abs.Sp
