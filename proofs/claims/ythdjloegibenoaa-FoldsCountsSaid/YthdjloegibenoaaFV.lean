/- Folds, plain: the creases of a map in the program's order and in the reference's. -/
import Derived.Test.YthdjloegibenoaaFU
namespace Go.Abs.Sp
open AVal
deriving instance DecidableEq for Cr
theorem cross_comm {p : List Int} {c d : Cr} (h1 : p.getD c.a 0 ≠ p.getD d.a 0) (h2 : p.getD c.b 0 ≠ p.getD d.a 0) (h3 : p.getD c.a 0 ≠ p.getD d.b 0) (h4 : p.getD c.b 0 ≠ p.getD d.b 0) : crossP p c d = crossP p d c := by
  rw [cross_eq h1 h2 h3 h4, cross_eq h1.symm h3.symm h2.symm h4.symm]
  by_cases hs : c.s = d.s
  · rw [if_pos hs, if_pos hs.symm]
    have key : ∀ x y : Int, x ≠ y → decide (y < x) = !decide (x < y) := fun x y h => by rw [← decide_not, decide_eq_decide]; omega
    rw [key _ _ h1, key _ _ h2, key _ _ h3, key _ _ h4]
    generalize decide (p.getD c.a 0 < p.getD d.a 0) = b1
    generalize decide (p.getD c.b 0 < p.getD d.a 0) = b2
    generalize decide (p.getD c.a 0 < p.getD d.b 0) = b3
    generalize decide (p.getD c.b 0 < p.getD d.b 0) = b4
    revert b1 b2 b3 b4
    decide
  · rw [if_neg hs, if_neg (fun h => hs h.symm)]
/-- Creases on one side have no leaf in common. -/
def Far (c d : Cr) : Prop := c.s = d.s → c.a ≠ d.a ∧ c.b ≠ d.a ∧ c.a ≠ d.b ∧ c.b ≠ d.b
instance (c d : Cr) : Decidable (Far c d) := by unfold Far; infer_instance
theorem far_P : ∀ n, n ≤ 4 → (planP n).Pairwise Far := by decide +kernel
theorem far_R : ∀ n, n ≤ 4 → (planR n).Pairwise Far := by decide +kernel
theorem plan_perm : ∀ n, n ≤ 4 → (planP n).Perm (planR n) := by decide +kernel
theorem poss_perm {n : Nat} {D : List Int} {l l' : List Cr} (h : Pile n D) (hp : l.Perm l') (hl : ∀ c ∈ l, c.a < n ∧ c.b < n) (hf : l.Pairwise Far) (hf' : l'.Pairwise Far) : possP D l = possP D l' := by
  have hl' : ∀ c ∈ l', c.a < n ∧ c.b < n := fun c hc => hl c (hp.mem_iff.2 hc)
  let R := fun c d : Cr => (c.a < n ∧ c.b < n) → (d.a < n ∧ d.b < n) → Far c d → crossP (placesP D) c d = false
  have hsym : ∀ {x y}, R x y → R y x := by
    intro c d hR hd hc hfar
    by_cases hs : c.s = d.s
    · obtain ⟨f1, f2, f3, f4⟩ := hfar hs.symm
      have hne : ∀ a b : Nat, a < n → b < n → a ≠ b → (placesP D).getD a 0 ≠ (placesP D).getD b 0 := fun a b ha hb hab => by
        rw [places_get h ha, places_get h hb]
        have := idx_inj h ha hb hab
        omega
      rw [cross_comm (hne _ _ hd.1 hc.1 f1) (hne _ _ hd.2 hc.1 f2) (hne _ _ hd.1 hc.2 f3) (hne _ _ hd.2 hc.2 f4)]
      exact hR hc hd fun _ => ⟨f1.symm, f3.symm, f2.symm, f4.symm⟩
    · rw [crossP, if_neg fun h => hs (Eq.symm h)]
  have conv : ∀ {l : List Cr}, (∀ c ∈ l, c.a < n ∧ c.b < n) → l.Pairwise Far → ((l.Pairwise fun c d => crossP (placesP D) c d = false) ↔ l.Pairwise R) := by
    intro l hl hf
    constructor
    · intro h; exact h.imp fun hx _ _ _ => hx
    · intro h
      refine (h.and hf).imp_of_mem fun {c d} hc hd hx => hx.1 (hl c hc) (hl d hd) hx.2
  rw [Bool.eq_iff_iff, poss_pairs, poss_pairs, conv hl hf, conv hl' hf']
  exact hp.pairwise_iff hsym
theorem poss_map {n : Nat} (h4 : n ≤ 4) {D : List Int} (h : Pile (2 * n) D) : possP D (planP n) = possP D (planR n) :=
  poss_perm h (plan_perm n h4) (planP_ok n h4) (far_P n h4) (far_R n h4)
end Go.Abs.Sp
