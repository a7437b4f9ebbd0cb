/- Products and fitting,plain: what is worked out with four numbers is as the reference has it. -/
import Derived.Test.YtlonaefihjdkpaaTKL
namespace Go.Abs.Sp
theorem fitG_zero : ∀ k,fitG (List.replicate k 0) (List.replicate k 0) = true
  | 0 => rfl
  | k + 1 => by
    simp only [List.replicate_succ,fitG]
    rw [if_neg (by simp)]
    exact fitG_zero k
theorem absW_small {u : Int} (h1 : -1000 ≤ u) (h2 : u ≤ 1000) : absW u = if u < 0 then -u else u := by
  unfold absW
  rw [wrap64 (by omega) (by omega)]
  split <;> split <;> omega
theorem fit_one {u z : Int} (hu : -1000 ≤ u ∧ u ≤ 1000) (hz : -1000 ≤ z ∧ z ≤ 1000) : (u != 0 && (decide (u > 0) != decide (z > 0) || decide (absW u > absW z))) = (decide (u > 0) && decide (u > z) || decide (u < 0) && decide (u < z)) := by
  rw [absW_small hu.1 hu.2,absW_small hz.1 hz.2,Bool.eq_iff_iff]
  simp only [Bool.and_eq_true,Bool.or_eq_true,bne_iff_ne,decide_eq_true_eq,ne_eq,decide_eq_decide]
  split <;> split <;> omega
theorem fitG_app (k : Nat) : ∀ (x y : List Int),x.length = y.length → numbers x (-1000) 1000 = true → numbers y (-1000) 1000 = true → fitG (x ++ List.replicate k 0) (y ++ List.replicate k 0) = fitR x y
  | [],[],_,_,_ => by simpa [fitR] using fitG_zero k
  | [],_ :: _,h,_,_ => by simp at h
  | _ :: _,[],h,_,_ => by simp at h
  | u :: x,z :: y,h,hx,hy => by
    have e1 : numbers (u :: x) (-1000) 1000 = ((decide (-1000 ≤ u) && decide (u ≤ 1000)) && numbers x (-1000) 1000) := rfl
    have e2 : numbers (z :: y) (-1000) 1000 = ((decide (-1000 ≤ z) && decide (z ≤ 1000)) && numbers y (-1000) 1000) := rfl
    rw [e1] at hx
    rw [e2] at hy
    simp only [Bool.and_eq_true,decide_eq_true_eq] at hx hy
    simp only [List.cons_append,fitG,fitR]
    rw [fit_one hx.1 hy.1,fitG_app k x y (by simpa using h) hx.2 hy.2]
theorem mat_spec {a : List (List Int)} (h : mat a = true) : 1 ≤ a.length ∧ a.length ≤ 2 ∧ ∀ r ∈ a,r.length = (a.getD 0 []).length ∧ 1 ≤ r.length ∧ r.length ≤ 4 := by
  unfold mat at h
  simp only [Bool.and_eq_true,decide_eq_true_eq,List.all_eq_true] at h
  exact ⟨h.1,h.2.1,fun r hr => ⟨(h.2.2 r hr).1,(h.2.2 r hr).2.1,(h.2.2 r hr).2.2.1⟩⟩
end Go.Abs.Sp
