/- Moves, plain: into each move a small one fits. -/
import Derived.Test.YtipfjfmdjmaflaaLT
import Derived.Test.YtipfjfmdjmaflaaLP
namespace Go.Abs.Sp
open Go.Abs.Cir
/-- A vector as a function, and back. -/
def fnV (x : List Int) : V := fun k => x.getD k.val 0
def L4 (u : V) : List Int := [u 0, u 1, u 2, u 3]
theorem fnV_L4 (u : V) (k : Fin 4) : fnV (L4 u) k = u k := by
  have : k = 0 ∨ k = 1 ∨ k = 2 ∨ k = 3 := by omega
  rcases this with rfl | rfl | rfl | rfl <;> rfl
theorem L4_fnV {x : List Int} (h : x.length = 4) : L4 (fnV x) = x := by
  match x, h with
  | [a, b, c, d], _ => rfl
/-- The sum of products, of four. -/
def dot4 (r x : V) : Int := r 0 * x 0 + r 1 * x 1 + r 2 * x 2 + r 3 * x 3
theorem dp_fn {r x : List Int} (hr : r.length = 4) (hx : x.length = 4) : dp r x = dot4 (fnV r) (fnV x) := by
  match r, hr, x, hx with
  | [a, b, c, d], _, [e, f, g, h], _ => show a * e + (b * f + (c * g + (d * h + 0))) = a * e + b * f + c * g + d * h; omega
theorem dp_L4 {r : List Int} (hr : r.length = 4) (u : V) : dp r (L4 u) = dot4 (fnV r) u := by
  match r, hr with
  | [a, b, c, d], _ => show a * u 0 + (b * u 1 + (c * u 2 + (d * u 3 + 0))) = a * u 0 + b * u 1 + c * u 2 + d * u 3; omega
theorem fitR_iff : ∀ {x y : List Int}, x.length = y.length → (fitR x y = true ↔ ∀ k, (0 < x.getD k 0 → x.getD k 0 ≤ y.getD k 0) ∧ (x.getD k 0 < 0 → y.getD k 0 ≤ x.getD k 0))
  | [], [], _ => by simp [fitR]
  | [], _ :: _, h => by simp at h
  | _ :: _, [], h => by simp at h
  | a :: x, b :: y, h => by
    have ih := fitR_iff (x := x) (y := y) (by simpa using h)
    unfold fitR
    constructor
    · intro hf
      split at hf
      · cases hf
      · rename_i hn
        have hn : ¬ ((0 < a ∧ b < a) ∨ (a < 0 ∧ a < b)) := by simpa using hn
        intro k
        cases k with
        | zero => simp; omega
        | succ k => simpa using ih.1 hf k
    · intro hk
      have h0 := hk 0
      simp at h0
      rw [if_neg (by simp; omega)]
      exact ih.2 fun k => by simpa using hk (k + 1)
theorem fitR_of {x y : List Int} (hx : x.length = 4) (hy : y.length = 4) (h : ∀ k : Fin 4, (0 < fnV x k → fnV x k ≤ fnV y k) ∧ (fnV x k < 0 → fnV y k ≤ fnV x k)) : fitR x y = true := by
  rw [fitR_iff (by omega)]
  intro k
  by_cases hk : k < 4
  · exact h ⟨k, hk⟩
  · rw [List.getD_eq_getElem?_getD, List.getElem?_eq_none (by omega)]; simp
/-- A move that is not 0. -/
structure Mv (rows : List (List Int)) (n : Nat) (x : List Int) : Prop where
  len : x.length = 4
  pad : ∀ j, n ≤ j → x.getD j 0 = 0
  ne : x ≠ z4
  mv : moveB rows x = true
theorem ne_z4 {x : List Int} (h : x.length = 4) : x ≠ z4 ↔ ∃ k : Fin 4, fnV x k ≠ 0 := by
  match x, h with
  | [a, b, c, d], _ =>
    constructor
    · intro hne
      by_cases h0 : a = 0
      · by_cases h1 : b = 0
        · by_cases h2 : c = 0
          · refine ⟨3, fun h3 => hne ?_⟩
            have h3 : d = 0 := h3
            rw [h0, h1, h2, h3]; rfl
          · exact ⟨2, h2⟩
        · exact ⟨1, h1⟩
      · exact ⟨0, h0⟩
    · rintro ⟨k, hk⟩ he
      rw [he] at hk
      have : k = 0 ∨ k = 1 ∨ k = 2 ∨ k = 3 := by omega
      rcases this with rfl | rfl | rfl | rfl <;> exact hk rfl
/-- To which side each number lies. -/
def sgnV (v : V) : V := fun k => if v k < 0 then -1 else 1
theorem sgn_sq (v : V) (k : Fin 4) : sgnV v k * sgnV v k = 1 := by unfold sgnV; split <;> rfl
theorem sgn_nn (v : V) (k : Fin 4) : 0 ≤ sgnV v k * v k := by unfold sgnV; split <;> omega
theorem sgn_bnd {r : V} {B : Int} (v : V) (k : Fin 4) (h : -B ≤ r k ∧ r k ≤ B) : -B ≤ sgnV v k * r k ∧ sgnV v k * r k ≤ B := by unfold sgnV; split <;> omega
theorem dot4_sgn (r v x : V) : dot4 r (fun k => sgnV v k * x k) = dot4 (fun k => sgnV v k * r k) x := by
  unfold dot4
  have e : ∀ k, r k * (sgnV v k * x k) = sgnV v k * r k * x k := fun k => by rw [← Int.mul_assoc, Int.mul_comm (r k)]
  rw [e, e, e, e]
/-- **A small one within, from numbers that are not below 0.** -/
theorem within {v : List Int} (hv : v.length = 4) {u : V} (hu : ∀ k, 0 ≤ u k ∧ u k ≤ sgnV (fnV v) k * fnV v k) : fitR (L4 fun k => sgnV (fnV v) k * u k) v = true := by
  refine fitR_of rfl hv fun k => ?_
  rw [fnV_L4]
  have := hu k
  unfold sgnV at this ⊢
  split <;> (rename_i h; simp only [h, if_true, if_false] at this; omega)
theorem inB_L4 {M : Int} {u : V} (h : ∀ k, -M ≤ u k ∧ u k ≤ M) : inB M (L4 u) := fun a ha => by
  simp only [L4, List.mem_cons, List.not_mem_nil, or_false] at ha
  rcases ha with rfl | rfl | rfl | rfl
  · exact h 0
  · exact h 1
  · exact h 2
  · exact h 3
/-- The circuits of two rows. -/
def circ (r s : V) : Fin 4 → V := fun j k =>
  match j, k with
  | 0, 0 => 0
  | 0, 1 => r 2 * s 3 - r 3 * s 2
  | 0, 2 => -(r 1 * s 3 - r 3 * s 1)
  | 0, 3 => r 1 * s 2 - r 2 * s 1
  | 1, 0 => -(r 2 * s 3 - r 3 * s 2)
  | 1, 1 => 0
  | 1, 2 => r 0 * s 3 - r 3 * s 0
  | 1, 3 => -(r 0 * s 2 - r 2 * s 0)
  | 2, 0 => r 1 * s 3 - r 3 * s 1
  | 2, 1 => -(r 0 * s 3 - r 3 * s 0)
  | 2, 2 => 0
  | 2, 3 => r 0 * s 1 - r 1 * s 0
  | 3, 0 => -(r 1 * s 2 - r 2 * s 1)
  | 3, 1 => r 0 * s 2 - r 2 * s 0
  | 3, 2 => -(r 0 * s 1 - r 1 * s 0)
  | 3, 3 => 0
theorem four {P : Fin 4 → Prop} (h0 : P 0) (h1 : P 1) (h2 : P 2) (h3 : P 3) (k : Fin 4) : P k := by
  have : k = 0 ∨ k = 1 ∨ k = 2 ∨ k = 3 := by omega
  rcases this with rfl | rfl | rfl | rfl
  · exact h0
  · exact h1
  · exact h2
  · exact h3
theorem plane (r s : V) (hne : ∃ i j, circ r s i j ≠ 0) : Plane (fun x => dot4 r x = 0 ∧ dot4 s x = 0) (circ r s) := by
  refine ⟨fun x y a b hx hy => ?_, fun j => ?_, fun i j => ?_, fun x hx i j k => ?_, hne⟩
  · obtain ⟨x1, x2⟩ := hx
    obtain ⟨y1, y2⟩ := hy
    unfold dot4 at *
    constructor <;> grind
  · refine four (P := fun j => dot4 r (circ r s j) = 0 ∧ dot4 s (circ r s j) = 0) ?_ ?_ ?_ ?_ j <;> (simp only [dot4, circ]; constructor <;> grind)
  · refine four (P := fun i => circ r s i j = -circ r s j i) ?_ ?_ ?_ ?_ i <;> (refine four (P := fun j => circ r s _ j = -circ r s j _) ?_ ?_ ?_ ?_ j <;> (simp only [circ] <;> omega))
  · obtain ⟨x1, x2⟩ := hx
    unfold dot4 at x1 x2
    refine four (P := fun i => circ r s j i * x k = x i * circ r s j k - x j * circ r s i k) ?_ ?_ ?_ ?_ i <;> (refine four (P := fun j => circ r s j _ * x k = x _ * circ r s j k - x j * circ r s _ k) ?_ ?_ ?_ ?_ j <;> (refine four (P := fun k => circ r s _ _ * x k = x _ * circ r s _ k - x _ * circ r s _ k) ?_ ?_ ?_ ?_ k <;> (simp only [circ]; grind)))
theorem dot4_one (r : V) (i : Fin 4) (α : Int) : dot4 r (fun k => if k = i then α else 0) = r i * α := by
  refine four (P := fun i => dot4 r (fun k => if k = i then α else 0) = r i * α) ?_ ?_ ?_ ?_ i <;> simp [dot4]
theorem dot4_two (r : V) {i j : Fin 4} (h : i ≠ j) (α β : Int) : dot4 r (fun k => if k = i then α else if k = j then β else 0) = r i * α + r j * β := by
  revert h
  refine four (P := fun i => i ≠ j → dot4 r (fun k => if k = i then α else if k = j then β else 0) = r i * α + r j * β) ?_ ?_ ?_ ?_ i <;>
    (refine four (P := fun j => _ ≠ j → dot4 r (fun k => if k = _ then α else if k = j then β else 0) = r _ * α + r j * β) ?_ ?_ ?_ ?_ j <;> (intro h; first | exact absurd rfl h | (simp [dot4] <;> omega)))
theorem dot4_three (r : V) {i j l : Fin 4} (h : i ≠ j) (h2 : i ≠ l) (h3 : j ≠ l) (α β γ : Int) : dot4 r (fun k => if k = i then α else if k = j then β else if k = l then γ else 0) = r i * α + r j * β + r l * γ := by
  revert h h2 h3
  refine four (P := fun i => i ≠ j → i ≠ l → j ≠ l → dot4 r (fun k => if k = i then α else if k = j then β else if k = l then γ else 0) = r i * α + r j * β + r l * γ) ?_ ?_ ?_ ?_ i <;>
    (refine four (P := fun j => _ ≠ j → _ ≠ l → j ≠ l → dot4 r (fun k => if k = _ then α else if k = j then β else if k = l then γ else 0) = r _ * α + r j * β + r l * γ) ?_ ?_ ?_ ?_ j <;>
      (refine four (P := fun l => _ ≠ _ → _ ≠ l → _ ≠ l → dot4 r (fun k => if k = _ then α else if k = _ then β else if k = l then γ else 0) = r _ * α + r _ * β + r l * γ) ?_ ?_ ?_ ?_ l <;> (intro h h2 h3; first | exact absurd rfl h | exact absurd rfl h2 | exact absurd rfl h3 | (simp [dot4] <;> omega))))
theorem dot4_ge (r v : V) (i : Fin 4) (h : ∀ k, k ≠ i → 0 ≤ r k * v k) : r i * v i ≤ dot4 r v := by
  have h0 := h 0
  have h1 := h 1
  have h2 := h 2
  have h3 := h 3
  unfold dot4
  refine four (P := fun i => (0 ≠ i → 0 ≤ r 0 * v 0) → (1 ≠ i → 0 ≤ r 1 * v 1) → (2 ≠ i → 0 ≤ r 2 * v 2) → (3 ≠ i → 0 ≤ r 3 * v 3) → r i * v i ≤ r 0 * v 0 + r 1 * v 1 + r 2 * v 2 + r 3 * v 3) ?_ ?_ ?_ ?_ i h0 h1 h2 h3 <;> (intro a b c d; simp at a b c d; omega)
theorem dot4_ge2 (r v : V) {i j : Fin 4} (hij : i ≠ j) (h : ∀ k, k ≠ i → k ≠ j → 0 ≤ r k * v k) : r i * v i + r j * v j ≤ dot4 r v := by
  have h0 := h 0
  have h1 := h 1
  have h2 := h 2
  have h3 := h 3
  unfold dot4
  revert hij h0 h1 h2 h3
  refine four (P := fun i => i ≠ j → (0 ≠ i → 0 ≠ j → 0 ≤ r 0 * v 0) → (1 ≠ i → 1 ≠ j → 0 ≤ r 1 * v 1) → (2 ≠ i → 2 ≠ j → 0 ≤ r 2 * v 2) → (3 ≠ i → 3 ≠ j → 0 ≤ r 3 * v 3) → r i * v i + r j * v j ≤ r 0 * v 0 + r 1 * v 1 + r 2 * v 2 + r 3 * v 3) ?_ ?_ ?_ ?_ i <;>
    (refine four (P := fun j => _ ≠ j → (0 ≠ _ → 0 ≠ j → 0 ≤ r 0 * v 0) → (1 ≠ _ → 1 ≠ j → 0 ≤ r 1 * v 1) → (2 ≠ _ → 2 ≠ j → 0 ≤ r 2 * v 2) → (3 ≠ _ → 3 ≠ j → 0 ≤ r 3 * v 3) → r _ * v _ + r j * v j ≤ r 0 * v 0 + r 1 * v 1 + r 2 * v 2 + r 3 * v 3) ?_ ?_ ?_ ?_ j <;> (intro hh a b c d; first | exact absurd rfl hh | (simp at a b c d; omega)))
theorem dot4_neg (r v : V) : dot4 (fun k => -r k) v = -dot4 r v := by
  unfold dot4
  simp only [Int.neg_mul]; omega
/-- What fits into a vector that balances one row. -/
def Small1 (r v : V) : Prop := ∃ u : V, (∀ k, 0 ≤ u k ∧ u k ≤ v k ∧ u k ≤ 2) ∧ (∃ k, u k ≠ 0) ∧ dot4 r u = 0
theorem Small1.neg {r v : V} (h : Small1 (fun k => -r k) v) : Small1 r v := by
  obtain ⟨u, h1, h2, h3⟩ := h
  exact ⟨u, h1, h2, by rw [dot4_neg] at h3; omega⟩
theorem small1_two {r v : V} {i j : Fin 4} (hr : ∀ k, -2 ≤ r k ∧ r k ≤ 2) (h0 : ∀ k, 0 ≤ v k) (hs : dot4 r v = 0) (hi : 0 < r i) (hvi : 0 < v i) (hj : r j < 0) (hvj : 0 < v j) (h21 : r i = 2 → r j = -1 → Small1 r v) (h12 : r i = 1 → r j = -2 → Small1 r v) : Small1 r v := by
  have hij : i ≠ j := fun e => by rw [e] at hi; omega
  by_cases he : r i = -r j
  · refine ⟨fun k => if k = i then 1 else if k = j then 1 else 0, fun k => ?_, ⟨i, by simp⟩, by rw [dot4_two r hij]; omega⟩
    dsimp only
    split
    · rename_i e; subst e; omega
    · split
      · rename_i e; subst e; omega
      · have := h0 k; omega
  · have hi2 := hr i
    have hj2 := hr j
    rcases (show (r i = 2 ∧ r j = -1) ∨ (r i = 1 ∧ r j = -2) by omega) with ⟨h1, h2⟩ | ⟨h1, h2⟩
    · exact h21 h1 h2
    · exact h12 h1 h2
theorem small1_21 {r v : V} {i j : Fin 4} (hr : ∀ k, -2 ≤ r k ∧ r k ≤ 2) (h0 : ∀ k, 0 ≤ v k) (hs : dot4 r v = 0) (hi : r i = 2) (hvi : 0 < v i) (hj : r j = -1) (hvj : 0 < v j) : Small1 r v := by
  have hij : i ≠ j := fun e => by rw [e] at hi; omega
  by_cases h2 : 2 ≤ v j
  · refine ⟨fun k => if k = i then 1 else if k = j then 2 else 0, fun k => ?_, ⟨i, by simp⟩, by rw [dot4_two r hij, hi, hj]; rfl⟩
    dsimp only
    split
    · rename_i e; subst e; omega
    · split
      · rename_i e; subst e; omega
      · have := h0 k; omega
  by_cases hl : ∃ l, l ≠ j ∧ r l < 0 ∧ 0 < v l
  · obtain ⟨l, hlj, hrl, hvl⟩ := hl
    have hil : i ≠ l := fun e => by rw [e] at hi; omega
    have hl2 := hr l
    rcases (show r l = -2 ∨ r l = -1 by omega) with h3 | h3
    · refine ⟨fun k => if k = i then 1 else if k = l then 1 else 0, fun k => ?_, ⟨i, by simp⟩, by rw [dot4_two r hil, hi, h3]; rfl⟩
      dsimp only
      split
      · rename_i e; subst e; omega
      · split
        · rename_i e; subst e; omega
        · have := h0 k; omega
    · refine ⟨fun k => if k = i then 1 else if k = j then 1 else if k = l then 1 else 0, fun k => ?_, ⟨i, by simp⟩, by rw [dot4_three r hij hil (Ne.symm hlj), hi, hj, h3]; rfl⟩
      dsimp only
      split
      · rename_i e; subst e; omega
      · split
        · rename_i e; subst e; omega
        · split
          · rename_i e; subst e; omega
          · have := h0 k; omega
  · have := dot4_ge2 r v hij fun k _ hkj => by
      by_cases hk : 0 ≤ r k
      · exact Int.mul_nonneg hk (h0 k)
      · have hvk : v k = 0 := by
          by_cases hvk : 0 < v k
          · exact absurd ⟨k, hkj, by omega, hvk⟩ hl
          · have := h0 k; omega
        rw [hvk, Int.mul_zero]; exact Int.le_refl _
    rw [hs, hi, hj] at this
    omega
theorem small1_pos {r v : V} {i : Fin 4} (hr : ∀ k, -2 ≤ r k ∧ r k ≤ 2) (h0 : ∀ k, 0 ≤ v k) (hs : dot4 r v = 0) (hi : 0 < r i) (hvi : 0 < v i) : Small1 r v := by
  by_cases hj : ∃ j, r j < 0 ∧ 0 < v j
  · obtain ⟨j, hrj, hvj⟩ := hj
    refine small1_two hr h0 hs hi hvi hrj hvj (fun h1 h2 => small1_21 hr h0 hs h1 hvi h2 hvj) fun h1 h2 => ?_
    exact Small1.neg (small1_21 (fun k => by have := hr k; show -2 ≤ -r k ∧ -r k ≤ 2; omega) h0 (by rw [dot4_neg, hs]; rfl) (i := j) (j := i) (by show -r j = 2; omega) hvj (by show -r i = -1; omega) hvi)
  · have := dot4_ge r v i fun k _ => by
      by_cases hk : 0 ≤ r k
      · exact Int.mul_nonneg hk (h0 k)
      · have hvk : v k = 0 := by
          by_cases hvk : 0 < v k
          · exact absurd ⟨k, by omega, hvk⟩ hj
          · have := h0 k; omega
        rw [hvk, Int.mul_zero]; exact Int.le_refl _
    have h2 := Int.mul_pos hi hvi
    omega
/-- **One row.** -/
theorem small1 {r v : V} (hr : ∀ k, -2 ≤ r k ∧ r k ≤ 2) (h0 : ∀ k, 0 ≤ v k) (hn : ∃ k, v k ≠ 0) (hs : dot4 r v = 0) : Small1 r v := by
  obtain ⟨i, hi⟩ := hn
  have hvi : 0 < v i := by have := h0 i; omega
  by_cases hz : r i = 0
  · refine ⟨fun k => if k = i then 1 else 0, fun k => ?_, ⟨i, by simp⟩, by rw [dot4_one, hz]; rfl⟩
    dsimp only
    split
    · rename_i e; subst e; omega
    · have := h0 k; omega
  by_cases hp : 0 < r i
  · exact small1_pos hr h0 hs hp hvi
  · exact Small1.neg (small1_pos (fun k => by have := hr k; show -2 ≤ -r k ∧ -r k ≤ 2; omega) h0 (by rw [dot4_neg, hs]; rfl) (i := i) (by show 0 < -r i; omega) hvi)
end Go.Abs.Sp
