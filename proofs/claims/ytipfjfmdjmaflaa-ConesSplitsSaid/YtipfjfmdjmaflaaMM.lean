/- Sums of parts, plain. -/
import Derived.Test.YtipfjfmdjmaflaaML
namespace Go.Abs.Sp
open Go.Abs.Cir Go.Proofs.Ytipfjfmdjmaflaa
theorem sum_sign {X : List Int} (hX : X.length = 4) {j : Nat} : ∀ {l : List (List Int)}, (∀ y ∈ l, y.length = 4 ∧ fitR y X = true) → (0 ≤ X.getD j 0 → 0 ≤ sumC l j) ∧ (X.getD j 0 ≤ 0 → sumC l j ≤ 0)
  | [], _ => by simp [sumC]
  | y :: l, h => by
    have ih := sum_sign (j := j) hX (l := l) fun z hz => h z (by simp [hz])
    obtain ⟨h1, h2⟩ := h y (by simp)
    have h3 := (fitR_iff (by omega)).1 h2 j
    simp only [sumC, List.foldr_cons] at ih ⊢
    omega
theorem check_true {B : List (List Int)} {X : List Int} (hX : X.length = 4) : ∀ (l : List (List Int)) {S : List Int}, S.length = 4 → fitR S X = true → (∀ s ∈ l, s ∈ B ∧ (pad s).length = 4 ∧ fitR (pad s) X = true) → (∀ j, X.getD j 0 = S.getD j 0 + sumC (l.map pad) j) → checkL B X S l = true
  | [], S, hS, _, _, hs => by
    have : S = X := ext4 hS hX fun j => by have := hs j; simp [sumC] at this; simp [this]
    unfold checkL
    simp [this]
  | s :: l, S, hS, hf, h, hs => by
    obtain ⟨h1, h2, h3⟩ := h s (by simp)
    have g := plusV_get (k := 1) hS h2
    have hn : fitR (plusV 1 S (pad s)) X = true := by
      rw [fitR_iff (by rw [plusV_len hS h2, hX])]
      intro j
      have k1 := hs j
      have k2 := (fitR_iff (by omega : S.length = X.length)).1 hf j
      have k3 := (fitR_iff (by omega : (pad s).length = X.length)).1 h3 j
      have k4 := sum_sign (j := j) hX (l := l.map pad) fun y hy => by
        obtain ⟨z, hz, rfl⟩ := List.mem_map.1 hy
        exact (h z (by simp [hz])).2
      simp only [sumC, List.map_cons, List.foldr_cons] at k1 k4
      rw [g j]
      omega
    unfold checkL
    rw [if_pos (by rw [List.contains_iff_mem.2 h1, h3, hn]; rfl)]
    refine check_true hX l (plusV_len hS h2) hn (fun t ht => h t (by simp [ht])) fun j => ?_
    have k1 := hs j
    simp only [sumC, List.map_cons, List.foldr_cons] at k1 ⊢
    rw [g j]; omega
/-- The parts as they are answered. -/
theorem parts {a : List (List Int)} (hm : mat a = true) {X : List Int} {l : List (List Int)} (h : SplitOk (a.map pad) (a.getD 0 []).length X l) {S : List (List Int)} (hS : sortV (l.map fun y => y.take (a.getD 0 []).length) = S) :
    (∀ s ∈ S, s ∈ basL a ∧ s.length = (a.getD 0 []).length ∧ (pad s).length = 4 ∧ fitR (pad s) X = true) ∧ ∀ j, X.getD j 0 = sumC (S.map pad) j := by
  obtain ⟨-, -, -, n4⟩ := mat_cols hm rfl
  have pt : ∀ y ∈ l, pad (y.take (a.getD 0 []).length) = y := fun y hy => take_pad n4 (h.each y hy).1.mv.len (h.each y hy).1.mv.pad
  have hp : S.Perm (l.map fun y => y.take (a.getD 0 []).length) := by rw [← hS]; exact sortV_perm _
  refine ⟨fun s hs => ?_, fun j => ?_⟩
  · obtain ⟨y, hy, rfl⟩ := List.mem_map.1 (hp.mem_iff.1 hs)
    obtain ⟨h1, h2⟩ := h.each y hy
    have e := pt y hy
    have hl : (y.take (a.getD 0 []).length).length = (a.getD 0 []).length := by rw [List.length_take, h1.mv.len]; omega
    exact ⟨(mem_basL hm).2 ⟨hl, by rw [e]; exact h1⟩, hl, by rw [e]; exact h1.mv.len, by rw [e]; exact h2⟩
  · rw [h.sum j, sumC_perm (hp.map pad) j, List.map_map]
    congr 1
    conv => lhs; rw [← List.map_id l]
    exact List.map_congr_left fun y hy => (pt y hy).symm
theorem sumC_pad {n j : Nat} (hj : j < n) : ∀ {l : List (List Int)}, (∀ s ∈ l, s.length = n) → sumC (l.map pad) j = sumC l j
  | [], _ => rfl
  | s :: l, h => by
    have ih := sumC_pad hj (l := l) fun t ht => h t (by simp [ht])
    simp only [sumC, List.map_cons, List.foldr_cons] at ih ⊢
    rw [ih]
    congr 1
    unfold pad
    rw [List.getD_eq_getElem?_getD, List.getElem?_append_left (by rw [h s (by simp)]; exact hj), List.getD_eq_getElem?_getD]
theorem sumC_bnd {j : Nat} : ∀ {l : List (List Int)}, (∀ s ∈ l, inB 16 s) → -(16 * (l.length : Int)) ≤ sumC l j ∧ sumC l j ≤ 16 * (l.length : Int)
  | [], _ => by simp [sumC]
  | s :: l, h => by
    have ih := sumC_bnd (j := j) (l := l) fun t ht => h t (by simp [ht])
    have h1 := inB_getD (h s (by simp)) j
    simp only [sumC, List.foldr_cons] at ih ⊢
    simp only [List.length_cons]
    omega
/-- The sums of all columns. -/
def runS (n : Nat) (l : List (List Int)) : List Int := (List.range n).map fun j => sumC l j
theorem runS_len (n : Nat) (l : List (List Int)) : (runS n l).length = n := by simp [runS]
theorem runS_get {n j : Nat} (l : List (List Int)) (h : j < n) : (runS n l).getD j 0 = sumC l j := by
  unfold runS
  rw [List.getD_eq_getElem?_getD, List.getElem?_map, List.getElem?_range h]; rfl
theorem runS_nil (n : Nat) : runS n [] = List.replicate n 0 := by
  refine List.ext_getElem (by simp [runS]) fun i h1 h2 => ?_
  simp [runS, sumC]
/-- A product is 0 just if it is a move. -/
theorem times_move {a : List (List Int)} {x : List Int} (hv : vecOk a x (-100) 100 = true) : (timesV a x).any (fun z => z != 0) = !moveB (a.map pad) (pad x) := by
  unfold vecOk at hv
  rw [Bool.and_eq_true, Bool.and_eq_true, decide_eq_true_eq] at hv
  obtain ⟨hm, xl, xn⟩ := hv
  obtain ⟨r1, -, -, n4⟩ := mat_cols hm rfl
  obtain ⟨-, -, h3⟩ := mat_spec hm
  have xb : inB 100 x := inB_numbers.2 xn
  have e : ∀ r ∈ a, dotG 0 r x = dp (pad r) (pad x) := fun r hr => by
    have hl := (h3 r hr).1
    have hrb : inB 2 r := fun z hz => r1.bnd (pad r) (List.mem_map.2 ⟨r, hr, rfl⟩) z (by unfold pad; simp [hz])
    rw [dotG_dp (A := 2) (M := 100) (by decide) (by decide) (by decide) hrb xb (by omega) (by omega) (by omega), Int.zero_add]
    rw [dp_split (a.getD 0 []).length (by rw [pad_len (by omega), pad_len (by omega)] : (pad r).length = (pad x).length), pad_take hl, pad_take xl, dp_zero (drop_zero fun j hj => pad_getD xl hj)]
    omega
  unfold timesV moveB
  rw [List.any_map, List.all_map, Bool.eq_iff_iff, List.any_eq_true, Bool.not_eq_true', List.all_eq_false]
  constructor
  · rintro ⟨r, hr, h⟩
    refine ⟨r, hr, ?_⟩
    simp only [Function.comp, bne_iff_ne, ne_eq, beq_iff_eq] at h ⊢
    rwa [← e r hr]
  · rintro ⟨r, hr, h⟩
    refine ⟨r, hr, ?_⟩
    simp only [Function.comp, bne_iff_ne, ne_eq, beq_iff_eq] at h ⊢
    rwa [e r hr]
end Go.Abs.Sp
