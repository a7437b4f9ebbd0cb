/- Plain: sums of columns; Plain: what is kept of any list of moves. -/
import Derived.Test.YtlonaefihjdkpaaTMI
import Derived.Test.YtlonaefihjdkpaaTLE
import Derived.Test.YtlonaefihjdkpaaTMH
import Derived.Test.YtlonaefihjdkpaaTLZ
namespace Go.Abs.Sp
open Go.Abs.Cir Go.Proofs.Ytlonaefihjdkpaa
theorem sum_sign {X : List Int} (hX : X.length = 4) {j : Nat} : ∀ {l : List (List Int)},(∀ y ∈ l,y.length = 4 ∧ fitR y X = true) → (0 ≤ X.getD j 0 → 0 ≤ sumC l j) ∧ (X.getD j 0 ≤ 0 → sumC l j ≤ 0)
  | [],_ => by simp [sumC]
  | y :: l,h => by
    have ih := sum_sign (j := j) hX (l := l) fun z hz => h z (by simp [hz])
    obtain ⟨h1,h2⟩ := h y (by simp)
    have h3 := (fitR_iff (by omega)).1 h2 j
    simp only [sumC,List.foldr_cons] at ih ⊢
    omega
theorem sumC_bnd {j : Nat} : ∀ {l : List (List Int)},(∀ s ∈ l,inB 16 s) → -(16 * (l.length : Int)) ≤ sumC l j ∧ sumC l j ≤ 16 * (l.length : Int)
  | [],_ => by simp [sumC]
  | s :: l,h => by
    have ih := sumC_bnd (j := j) (l := l) fun t ht => h t (by simp [ht])
    have h1 := inB_getD (h s (by simp)) j
    simp only [sumC,List.foldr_cons] at ih ⊢
    simp only [List.length_cons]
    omega
end Go.Abs.Sp
namespace Go.Abs.Sp
open Go.Abs.Cir Go.Proofs.Ytlonaefihjdkpaa
theorem inB_pad {M : Int} (h0 : 0 ≤ M) {x : List Int} : inB M (pad x) ↔ inB M x := by
  unfold inB pad
  refine ⟨fun h a ha => h a (List.mem_append_left _ ha),fun h a ha => ?_⟩
  rcases List.mem_append.1 ha with ha | ha
  · exact h a ha
  · rw [List.mem_replicate] at ha; omega
end Go.Abs.Sp
