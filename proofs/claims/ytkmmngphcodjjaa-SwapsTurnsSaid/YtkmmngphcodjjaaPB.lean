/- Small sets as numbers: bits of numbers below 64. -/
import Derived.Test.YtkmmngphcodjjaaPT
namespace Go.Abs.Sp

/-- A set of numbers below 6. -/
def isSet (m : Int) : Prop := 0 ≤ m ∧ m < 64
def has (m : Int) (j : Nat) : Bool := bitAt m j == 1

theorem allSets {p : Int → Prop} (h : ∀ k : Nat, k < 64 → p k) {m : Int} (hm : isSet m) : p m := by
  have := h m.toNat (by have := hm.1; have := hm.2; omega)
  rwa [Int.toNat_of_nonneg hm.1] at this

set_option maxRecDepth 100000 in
theorem or_dec : ∀ k : Nat, k < 64 → ∀ i : Nat, i < 6 → (0 ≤ orI k (shl1 i) ∧ orI k (shl1 i) < 64) ∧ ∀ j : Nat, j < 6 → has (orI k (shl1 i)) j = (has k j || decide (j = i)) := by decide +kernel
theorem or_set {m : Int} (hm : isSet m) {i : Nat} (hi : i < 6) : isSet (orI m (shl1 i)) := (allSets (p := fun m => ∀ i : Nat, i < 6 → (0 ≤ orI m (shl1 i) ∧ orI m (shl1 i) < 64) ∧ ∀ j : Nat, j < 6 → has (orI m (shl1 i)) j = (has m j || decide (j = i))) or_dec hm i hi).1
theorem has_or {m : Int} (hm : isSet m) {i : Nat} (hi : i < 6) {j : Nat} (hj : j < 6) : has (orI m (shl1 i)) j = (has m j || decide (j = i)) := (allSets (p := fun m => ∀ i : Nat, i < 6 → (0 ≤ orI m (shl1 i) ∧ orI m (shl1 i) < 64) ∧ ∀ j : Nat, j < 6 → has (orI m (shl1 i)) j = (has m j || decide (j = i))) or_dec hm i hi).2 j hj

def butI (x y : Int) : Int := bitsI .andNot .i64 x y
set_option maxRecDepth 100000 in
theorem but_dec : ∀ k : Nat, k < 64 → ∀ i : Nat, i < 64 → (0 ≤ butI k i ∧ butI k i < 64) ∧ ∀ j : Nat, j < 6 → has (butI k i) j = (has k j && !has i j) := by decide +kernel
theorem but_set {m k : Int} (hm : isSet m) (hk : isSet k) : isSet (butI m k) := by
  have h1 := but_dec m.toNat (by have := hm.1; have := hm.2; omega) k.toNat (by have := hk.1; have := hk.2; omega)
  rw [Int.toNat_of_nonneg hm.1, Int.toNat_of_nonneg hk.1] at h1; exact h1.1
theorem has_but {m k : Int} (hm : isSet m) (hk : isSet k) {j : Nat} (hj : j < 6) : has (butI m k) j = (has m j && !has k j) := by
  have h1 := but_dec m.toNat (by have := hm.1; have := hm.2; omega) k.toNat (by have := hk.1; have := hk.2; omega)
  rw [Int.toNat_of_nonneg hm.1, Int.toNat_of_nonneg hk.1] at h1; exact h1.2 j hj

set_option maxRecDepth 100000 in
theorem zero_dec : ∀ k : Nat, k < 64 → ((k : Int) = 0 ↔ ∀ j : Nat, j < 6 → has k j = false) := by decide +kernel
theorem set_zero {m : Int} (hm : isSet m) : m = 0 ↔ ∀ j : Nat, j < 6 → has m j = false := allSets (p := fun m => m = 0 ↔ ∀ j : Nat, j < 6 → has m j = false) zero_dec hm

theorem full_dec : ∀ n : Nat, n < 7 → isSet (IntKind.i64.wrap (shl1 n - 1)) ∧ ∀ j : Nat, j < 6 → has (IntKind.i64.wrap (shl1 n - 1)) j = decide (j < n) := by unfold isSet; decide +kernel
theorem set_ext {m k : Int} (hm : isSet m) (hk : isSet k) (h : ∀ j : Nat, j < 6 → has m j = has k j) : m = k := by
  have hz : butI m k = 0 := (set_zero (but_set hm hk)).2 fun j hj => by rw [has_but hm hk hj, h j hj]; cases has k j <;> rfl
  have hz' : butI k m = 0 := (set_zero (but_set hk hm)).2 fun j hj => by rw [has_but hk hm hj, h j hj]; cases has k j <;> rfl
  have := eq_dec m.toNat (by have := hm.1; have := hm.2; omega) k.toNat (by have := hk.1; have := hk.2; omega)
  rw [Int.toNat_of_nonneg hm.1, Int.toNat_of_nonneg hk.1] at this
  exact this hz hz'
where
  eq_dec : ∀ k : Nat, k < 64 → ∀ i : Nat, i < 64 → butI k i = 0 → butI i k = 0 → (k : Int) = i := by decide +kernel
theorem bit_dec : ∀ k : Nat, k < 64 → ∀ j : Nat, j < 6 → (bitAt k j == 0) = !has k j := by decide +kernel
theorem bit_zero {m : Int} (hm : isSet m) {j : Nat} (hj : j < 6) : (bitAt m j == 0) = !has m j := allSets (p := fun m => ∀ j : Nat, j < 6 → (bitAt m j == 0) = !has m j) bit_dec hm j hj

end Go.Abs.Sp
