/- Choosing in turns,plain; All orders,plain: how the program and the reference count them up. -/
import Derived.Test.YtlonaefihjdkpaaPZ
namespace Go.Abs.Sp
theorem shl_set : ∀ i : Nat,i < 6 → isSet (shl1 i) ∧ ∀ j : Nat,j < 6 → has (shl1 i) j = decide (j = i) := by unfold isSet; decide +kernel
theorem pc_but_dec : ∀ k : Nat,k < 64 → ∀ i : Nat,i < 6 → pc (butI k (shl1 i)) + 1 ≥ pc k := by decide +kernel
theorem pc_but {m : Int} (hm : isSet m) {i : Nat} (hi : i < 6) : pc (butI m (shl1 i)) + 1 ≥ pc m := allSets (p := fun m => ∀ i : Nat,i < 6 → pc (butI m (shl1 i)) + 1 ≥ pc m) pc_but_dec hm i hi
theorem pc_pos_dec : ∀ k : Nat,k < 64 → 0 < pc k → ∃ j : Nat,j < 6 ∧ has k j = true := by decide +kernel
theorem pc_pos {m : Int} (hm : isSet m) (h : 0 < pc m) : ∃ j : Nat,j < 6 ∧ has m j = true := allSets (p := fun m => 0 < pc m → ∃ j : Nat,j < 6 ∧ has m j = true) pc_pos_dec hm h
structure Left (n : Nat) (left : Int) (k : Nat) : Prop where
  set : isSet left
  lt : ∀ j : Nat,j < 6 → has left j = true → j < n
  pc : k ≤ pc left
theorem Left.bit {w : List (List Int)} (g : Good w) {left : Int} {k : Nat} (h : Left w.length left (k + 1)) {i : Nat} (hi : i < w.length) : ∃ c ∈ w.getD i [],(bitAt left c == 1) = true := by
  obtain ⟨j,hj,hb⟩ := pc_pos h.set (by have := h.pc; omega)
  exact ⟨j,g.cov _ (getD_mem hi) j (h.lt j hj hb),hb⟩
theorem Left.step {n : Nat} {left : Int} {k : Nat} (h : Left n left (k + 1)) {c : Nat} (hc : c < 6) : Left n (butI left (shl1 c)) k := by
  have hs := shl_set c hc
  refine ⟨but_set h.set hs.1,fun j hj hb => ?_,by have := pc_but h.set hc; have := h.pc; omega⟩
  rw [has_but h.set hs.1 hj,Bool.and_eq_true] at hb
  exact h.lt j hj hb.1
def TakenOf (n : Nat) (taken left : Int) : Prop := isSet taken ∧ ∀ j : Nat,j < n → has taken j = !has left j
theorem TakenOf.step {n : Nat} {taken left : Int} (h : TakenOf n taken left) (hl : isSet left) (hn : n ≤ 6) {c : Nat} (hc : c < n) : TakenOf n (orI taken (shl1 c)) (butI left (shl1 c)) := by
  have hs := shl_set c (by omega)
  refine ⟨or_set h.1 (by omega),fun j hj => ?_⟩
  rw [has_or h.1 (by omega) (by omega),has_but hl hs.1 (by omega),hs.2 j (by omega),h.2 j hj]
  cases has left j <;> cases decide (j = c) <;> rfl
end Go.Abs.Sp
namespace Go.Abs.Sp
end Go.Abs.Sp
