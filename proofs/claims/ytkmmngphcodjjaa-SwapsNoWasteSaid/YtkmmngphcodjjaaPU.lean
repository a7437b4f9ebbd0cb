/- Swaps,plain: collectors renamed. -/
import Derived.Test.YtkmmngphcodjjaaBV
namespace Go.Abs.Sp
open AVal
structure Ren (w w' : List (List Int)) (σ : Nat → Nat) : Prop where
  len : w'.length = w.length
  rng : ∀ i,i < w.length → σ i < w.length
  inj : ∀ i j,i < w.length → j < w.length → σ i = σ j → i = j
  row : ∀ i,i < w.length → w'.getD (σ i) [] = (w.getD i []).map fun c => (σ c.toNat : Int)
def RelR (n : Nat) (σ : Nat → Nat) (R R' : List Int) : Prop := ∀ i,i < n → R'.getD (σ i) 0 = R.getD i 0
theorem idx_map_p {α β : Type} {f : α → β} {p : β → Bool} : ∀ l : List α,idx p (l.map f) = idx (fun x => p (f x)) l
  | [] => rfl
  | x :: l => by rw [List.map_cons,idx,idx,idx_map_p l]
theorem idx_same {α : Type} {p q : α → Bool} : ∀ {l : List α},(∀ x ∈ l,p x = q x) → idx p l = idx q l
  | [],_ => rfl
  | x :: l,h => by rw [idx,idx,h x (by simp),idx_same fun y hy => h y (by simp [hy])]
section
variable {w w' : List (List Int)} {σ : Nat → Nat}
theorem Ren.alive (h : Ren w w' σ) {R R' : List Int} (hR : RelR w.length σ R R') {c : Nat} (hc : c < w.length) : alive R' (σ c : Nat) = alive R (c : Nat) := by
  unfold Sp.alive
  rw [Int.toNat_natCast,Int.toNat_natCast,hR c hc]
theorem Ren.best (h : Ren w w' σ) (g : Good w) {R R' : List Int} (hR : RelR w.length σ R R') (ha : Some1 w R) {i : Nat} (hi : i < w.length) : best w' R' (σ i) = (σ (best w R i).toNat : Nat) := by
  unfold Sp.best
  have hm : w.getD i [] ∈ w := getD_mem hi
  have e : idx (Sp.alive R') (w'.getD (σ i) []) = idx (Sp.alive R) (w.getD i []) := by
    rw [h.row i hi,idx_map_p]
    refine idx_same fun c hc => ?_
    have := g.rng _ hm c hc
    rw [h.alive hR (c := c.toNat) (by omega),Int.toNat_of_nonneg this.1]
  rw [e,h.row i hi]
  obtain ⟨j,hj,hja⟩ := ha
  have h0 : 0 ≤ idx (Sp.alive R) (w.getD i []) := idx_pos ⟨_,g.cov _ hm j hj,hja⟩
  have h1 := (idx_lt (Sp.alive R) (w.getD i [])).2
  generalize w.getD i [] = row at *
  have hk : (idx (Sp.alive R) row).toNat < row.length := by omega
  rw [List.getD_eq_getElem?_getD,List.getElem?_map,List.getD_eq_getElem?_getD,List.getElem?_eq_getElem hk]; rfl
theorem Ren.chase (h : Ren w w' σ) (g : Good w) {R R' : List Int} (hR : RelR w.length σ R R') (ha : Some1 w R) {i : Nat} (hi : i < w.length) : ∀ (k a : Nat),a < w.length → Sp.chase (Sp.best w' R') (σ i : Nat) k (σ a : Nat) = (σ (Sp.chase (Sp.best w R) (i : Nat) k (a : Nat)).toNat : Nat) ∧ 0 ≤ Sp.chase (Sp.best w R) (i : Nat) k (a : Nat) ∧ Sp.chase (Sp.best w R) (i : Nat) k (a : Nat) < w.length
  | 0,a,hal => by simp [Sp.chase]; exact hal
  | k + 1,a,hal => by
    rw [Sp.chase,Sp.chase]
    by_cases hai : a = i
    · subst hai; simp; exact hal
    · have h1 : ¬ (a : Int) = (i : Int) := by omega
      have h2 : ¬ ((σ a : Nat) : Int) = ((σ i : Nat) : Int) := fun e => hai (h.inj a i hal hi (by omega))
      have hb := best_spec g ha hal
      rw [if_neg h1,if_neg h2,Int.toNat_natCast,Int.toNat_natCast,h.best g hR ha hal]
      have := Ren.chase h g hR ha hi k (Sp.best w R a).toNat (by omega)
      rw [Int.toNat_of_nonneg hb.1] at this
      exact this
theorem Ren.leaves (h : Ren w w' σ) (g : Good w) {R R' : List Int} (hR : RelR w.length σ R R') {i : Nat} (hi : i < w.length) : Sp.leaves w' R' (σ i) = Sp.leaves w R i := by
  unfold Sp.leaves
  rw [h.alive hR hi]
  cases ha : Sp.alive R (i : Nat) with
  | false => rfl
  | true =>
    have hs : Some1 w R := ⟨i,hi,ha⟩
    have hb := best_spec g hs hi
    have hc := h.chase g hR hs hi w.length (Sp.best w R i).toNat (by omega)
    rw [Int.toNat_of_nonneg hb.1] at hc
    rw [h.best g hR hs hi,h.len,hc.1,Bool.true_and,Bool.true_and,Bool.eq_iff_iff,beq_iff_eq,beq_iff_eq]
    constructor
    · intro e
      have := h.inj _ i (by omega) hi (show σ (Sp.chase (Sp.best w R) (i : Nat) w.length (Sp.best w R i)).toNat = σ i by omega)
      omega
    · intro e; rw [e,Int.toNat_natCast]
theorem Ren.st (h : Ren w w' σ) (g : Good w) : ∀ k,RelR w.length σ (Sp.st w k).2 (Sp.st w' k).2
  | 0 => fun i hi => by
    show (List.replicate w'.length 0).getD (σ i) 0 = (List.replicate w.length 0).getD i 0
    rw [zero_get,zero_get]
  | k + 1 => fun i hi => by
    have ih := Ren.st h g k
    show (stepR w' (Sp.st w' k).2 (k + 1)).getD (σ i) 0 = (stepR w (Sp.st w k).2 (k + 1)).getD i 0
    rw [stepR_get (by rw [h.len]; exact h.rng i hi),stepR_get hi,h.leaves g ih hi,ih i hi]
end
end Go.Abs.Sp
namespace Go.Proofs.Ytkmmngphcodjjaa
open Go.Abs AVal
open Sp
theorem order_of {n : Nat} (hn : n ≤ 6) {D : List Int} (hl : D.length = n) (hr : ∀ x ∈ D,0 ≤ x ∧ x < n) (hd : D.Nodup) : Sp.isOrder D n = true := by
  rw [← all_eq (by omega),Sp.all,if_pos (allGo_of hn D 0 set0 hr hd fun x hx => has0 _ (by have := hr x hx; omega)),hl]; simp
theorem order_inj {n : Nat} (hn : n ≤ 6) {D : List Int} (h : Sp.isOrder D n = true) : D.length = n ∧ (∀ i,i < n → ∃ c : Nat,c < n ∧ D.getD i 0 = c) ∧ ∀ i j,i < n → j < n → D.getD i 0 = D.getD j 0 → i = j := by
  obtain ⟨hl,hr,-⟩ := order_spec hn h
  have hnd : D.Nodup := by
    rw [← all_eq hn,Sp.all] at h
    split at h
    · rename_i hg; exact (allGo_spec hn D 0 set0 hg).1
    · cases h
  refine ⟨hl,fun i hi => ?_,fun i j hi hj e => ?_⟩
  · have := hr _ (getD_mem (d := 0) (show i < D.length by omega))
    exact ⟨(D.getD i 0).toNat,by omega,by omega⟩
  · have hi' : i < D.length := by omega
    have hj' : j < D.length := by omega
    rw [List.getD_eq_getElem?_getD,List.getD_eq_getElem?_getD,List.getElem?_eq_getElem hi',List.getElem?_eq_getElem hj',Option.getD_some,Option.getD_some] at e
    have hp := List.pairwise_iff_getElem.1 (List.nodup_iff_pairwise_ne.1 hnd)
    refine Classical.byContradiction fun hij => ?_
    rcases Nat.lt_or_gt_of_ne hij with hlt | hlt
    · exact hp i j hi' hj' hlt e
    · exact hp j i hj' hi' hlt e.symm
structure Bij (n : Nat) (σ τ : Nat → Nat) : Prop where
  a : ∀ i,i < n → σ i < n ∧ τ (σ i) = i
  b : ∀ j,j < n → τ j < n ∧ σ (τ j) = j
theorem Bij.symm {n : Nat} {σ τ : Nat → Nat} (h : Bij n σ τ) : Bij n τ σ := ⟨h.b,h.a⟩
end Go.Proofs.Ytkmmngphcodjjaa
