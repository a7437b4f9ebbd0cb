/- Moves, plain: a vector of a plane is a sum of two circuits that fit into it. -/
import Derived.Test.YtipfjfmdjmaflaaAP
namespace Go.Abs.Cir
abbrev V := Fin 4 → Int

theorem minRatio {v d : V} (hv : ∀ k, 0 ≤ v k) : ∀ l : List (Fin 4), (∃ k ∈ l, 0 < d k) → ∃ j ∈ l, 0 < d j ∧ ∀ k ∈ l, 0 < d k → v j * d k ≤ v k * d j
  | [], h => by obtain ⟨k, hk, _⟩ := h; cases hk
  | a :: l, h => by
    by_cases hl : ∃ k ∈ l, 0 < d k
    · obtain ⟨j, hj, hdj, hmin⟩ := minRatio hv l hl
      by_cases ha : 0 < d a
      · by_cases hc : v a * d j ≤ v j * d a
        · refine ⟨a, by simp, ha, fun k hk hdk => ?_⟩
          rcases List.mem_cons.1 hk with rfl | hk
          · exact Int.le_refl _
          · have h1 := hmin k hk hdk
            -- v a d j ≤ v j d a; v j d k ≤ v k d j
            have h2 : v a * d k * d j ≤ v k * d a * d j := by
              have e1 := Int.mul_le_mul_of_nonneg_right hc (Int.le_of_lt hdk)
              have e2 := Int.mul_le_mul_of_nonneg_right h1 (Int.le_of_lt ha)
              have a1 : v a * d j * d k = v a * d k * d j := by rw [Int.mul_right_comm]
              have a2 : v j * d a * d k = v j * d k * d a := by rw [Int.mul_right_comm]
              have a3 : v k * d j * d a = v k * d a * d j := by rw [Int.mul_right_comm]
              omega
            exact Int.le_of_mul_le_mul_right h2 hdj
        · refine ⟨j, by simp [hj], hdj, fun k hk hdk => ?_⟩
          rcases List.mem_cons.1 hk with rfl | hk
          · omega
          · exact hmin k hk hdk
      · refine ⟨j, by simp [hj], hdj, fun k hk hdk => ?_⟩
        rcases List.mem_cons.1 hk with rfl | hk
        · exact absurd hdk ha
        · exact hmin k hk hdk
    · obtain ⟨k, hk, hdk⟩ := h
      rcases List.mem_cons.1 hk with rfl | hk
      · refine ⟨k, by simp, hdk, fun m hm hdm => ?_⟩
        rcases List.mem_cons.1 hm with rfl | hm
        · exact Int.le_refl _
        · exact absurd ⟨m, hm, hdm⟩ hl
      · exact absurd ⟨k, hk, hdk⟩ hl

theorem all4 (k : Fin 4) : k ∈ ([0, 1, 2, 3] : List (Fin 4)) := by
  have : k = 0 ∨ k = 1 ∨ k = 2 ∨ k = 3 := by omega
  rcases this with rfl | rfl | rfl | rfl <;> simp

section
variable {K : V → Prop} {C : Fin 4 → V} {v : V}
/-- What is known of a plane: its circuits, one for each column. -/
structure Plane (K : V → Prop) (C : Fin 4 → V) : Prop where
  sub : ∀ x y a b, K x → K y → K fun k => a * x k - b * y k
  cir : ∀ j, K (C j)
  anti : ∀ i j, C i j = -C j i
  id : ∀ x, K x → ∀ i j k, C j i * x k = x i * C j k - x j * C i k
  ne : ∃ i j, C i j ≠ 0
/-- A circuit, to one side. -/
def IsC (C : Fin 4 → V) (e : V) : Prop := ∃ j, ∃ s : Int, (s = 1 ∨ s = -1) ∧ (∀ k, e k = s * C j k) ∧ ∃ k, e k ≠ 0

/-- As much as fits is taken away. -/
theorem take (h0 : ∀ k, 0 ≤ v k) {d : V} (hs : ∀ k, v k = 0 → d k = 0) (hd : ∃ k, 0 < d k) : ∃ j, 0 < d j ∧ 0 < v j ∧ (∀ k, 0 ≤ d j * v k - v j * d k) ∧ d j * v j - v j * d j = 0 := by
  obtain ⟨k0, hk0⟩ := hd
  obtain ⟨j, -, hdj, hmin⟩ := minRatio (d := d) h0 [0, 1, 2, 3] ⟨k0, all4 k0, hk0⟩
  refine ⟨j, hdj, ?_, fun k => ?_, by rw [Int.mul_comm]; omega⟩
  · by_cases h : v j = 0
    · have := hs j h; omega
    · have := h0 j; omega
  · by_cases hk : 0 < d k
    · have := hmin k (all4 k) hk
      have e : d j * v k = v k * d j := Int.mul_comm _ _
      omega
    · have e1 := Int.mul_nonneg (Int.le_of_lt hdj) (h0 k)
      have e2 := Int.mul_nonneg (h0 j) (show 0 ≤ -d k by omega)
      rw [Int.mul_neg] at e2
      omega

/-- What is 0 where a circuit is, is some times that circuit. -/
theorem Plane.along (P : Plane K C) {w : V} (hw : K w) (h0 : ∀ k, 0 ≤ w k) {j : Fin 4} (hj : w j = 0) (hC : ∃ k, C j k ≠ 0) (hn : ∃ k, w k ≠ 0) : ∃ e q a, IsC C e ∧ 0 < q ∧ 0 < a ∧ (∀ k, 0 ≤ e k) ∧ ∀ k, q * w k = a * e k := by
  obtain ⟨i, hi⟩ := hn
  have hi0 : 0 < w i := by have := h0 i; omega
  have key : ∀ k, C j i * w k = w i * C j k := fun k => by
    have := P.id w hw i j k
    rw [hj] at this
    simpa using this
  have hCi : C j i ≠ 0 := fun h => by
    obtain ⟨k, hk⟩ := hC
    have := key k
    rw [h, Int.zero_mul] at this
    rcases Int.mul_eq_zero.1 this.symm with h1 | h1
    · omega
    · exact hk h1
  by_cases hp : 0 < C j i
  · refine ⟨C j, C j i, w i, ⟨j, 1, .inl rfl, fun k => by omega, hC⟩, hp, hi0, fun k => ?_, key⟩
    have h1 := Int.mul_nonneg (Int.le_of_lt hp) (h0 k)
    rw [key k] at h1
    exact Int.nonneg_of_mul_nonneg_right h1 hi0 |> fun h => h
  · refine ⟨fun k => -C j k, -C j i, w i, ⟨j, -1, .inr rfl, fun k => by show -C j k = -1 * C j k; omega, ?_⟩, by omega, hi0, fun k => ?_, fun k => ?_⟩
    · obtain ⟨k, hk⟩ := hC; exact ⟨k, by show -C j k ≠ 0; omega⟩
    · have h1 := Int.mul_nonneg (show 0 ≤ -C j i by omega) (h0 k)
      have h2 : -C j i * w k = w i * -C j k := by rw [Int.neg_mul, Int.mul_neg, key k]
      rw [h2] at h1
      exact Int.nonneg_of_mul_nonneg_right h1 hi0
    · show -C j i * w k = w i * -C j k
      rw [Int.neg_mul, Int.mul_neg, key k]

/-- **Each vector without numbers below 0 is a sum of some times two circuits without such numbers.** -/
theorem Plane.split (P : Plane K C) (hv : K v) (h0 : ∀ k, 0 ≤ v k) (hn : ∃ k, v k ≠ 0) :
    ∃ e f q a b, IsC C e ∧ IsC C f ∧ 0 < q ∧ 0 ≤ a ∧ 0 ≤ b ∧ (∀ k, 0 ≤ e k) ∧ (∀ k, 0 ≤ f k) ∧ ∀ k, q * v k = a * e k + b * f k := by
  by_cases hz : ∃ j, v j = 0 ∧ ∃ k, C j k ≠ 0
  · obtain ⟨j, hj, hC⟩ := hz
    obtain ⟨e, q, a, he, hq, ha, hp, hk⟩ := P.along hv h0 hj hC hn
    exact ⟨e, e, q, a, 0, he, he, hq, Int.le_of_lt ha, Int.le_refl _, hp, hp, fun k => by rw [hk k]; omega⟩
  have hz' : ∀ j, v j = 0 → ∀ k, C j k = 0 := fun j hj k => by
    by_cases h : C j k = 0
    · exact h
    · exact absurd ⟨j, hj, k, h⟩ hz
  have hsup : ∀ m k, v k = 0 → C m k = 0 := fun m k hk => by rw [P.anti, hz' k hk]; rfl
  -- some circuit that fits
  have first : ∃ e, IsC C e ∧ ∀ k, 0 ≤ e k := by
    obtain ⟨m, k0, hmk⟩ := P.ne
    obtain ⟨d, hd, hdp⟩ : ∃ d : V, ((∀ k, d k = C m k) ∨ ∀ k, d k = -C m k) ∧ 0 < d k0 := by
      by_cases h : 0 < C m k0
      · exact ⟨C m, .inl fun _ => rfl, h⟩
      · exact ⟨fun k => -C m k, .inr fun _ => rfl, by show 0 < -C m k0; omega⟩
    have hKd : K d := by
      rcases hd with h | h
      · rw [show d = C m from funext h]; exact P.cir m
      · have := P.sub (C m) (C m) 0 1 (P.cir m) (P.cir m)
        rwa [show (fun k => 0 * C m k - 1 * C m k) = d from funext fun k => by rw [h k]; omega] at this
    have hds : ∀ k, v k = 0 → d k = 0 := fun k hk => by
      rcases hd with h | h <;> simp [h k, hsup m k hk]
    obtain ⟨j, hdj, hvj, hw, hwj⟩ := take h0 hds ⟨k0, hdp⟩
    have hKw := P.sub v d (d j) (v j) hv hKd
    have hCj : ∃ k, C j k ≠ 0 := ⟨m, fun h => by
      have e1 := P.anti m j
      rw [h] at e1
      rcases hd with h | h <;> (have := h j; omega)⟩
    have hwn : ∃ k, d j * v k - v j * d k ≠ 0 := by
      refine ⟨m, fun h => ?_⟩
      have hmm : C m m = 0 := by have := P.anti m m; omega
      have hdm : d m = 0 := by rcases hd with h | h <;> simp [h m, hmm]
      rw [hdm, Int.mul_zero, Int.sub_zero] at h
      rcases Int.mul_eq_zero.1 h with h1 | h1
      · omega
      · exact hmk (hz' m h1 k0)
    obtain ⟨e, q, a, he, -, -, hp, -⟩ := P.along hKw hw hwj hCj hwn
    exact ⟨e, he, hp⟩
  obtain ⟨e, he, hep⟩ := first
  obtain ⟨m, s, hs, hem, k0, hk0⟩ := he
  have hKe : K e := by
    have := P.sub (C m) (C m) s 0 (P.cir m) (P.cir m)
    rwa [show (fun k => s * C m k - 0 * C m k) = e from funext fun k => by rw [hem k]; omega] at this
  have hes : ∀ k, v k = 0 → e k = 0 := fun k hk => by rw [hem k, hsup m k hk, Int.mul_zero]
  obtain ⟨j, hej, hvj, hw, hwj⟩ := take h0 hes ⟨k0, by have := hep k0; omega⟩
  have hKw := P.sub v e (e j) (v j) hv hKe
  have hIe : IsC C e := ⟨m, s, hs, hem, k0, hk0⟩
  by_cases hwn : ∃ k, e j * v k - v j * e k ≠ 0
  · have hCj : ∃ k, C j k ≠ 0 := ⟨m, fun h => by
      have e1 := P.anti m j
      rw [h] at e1
      have := hem j
      rw [e1, show -(0 : Int) = 0 from rfl, Int.mul_zero] at this
      omega⟩
    obtain ⟨f, q, b, hf, hq, hb, hfp, hk⟩ := P.along hKw hw hwj hCj hwn
    refine ⟨e, f, q * e j, q * v j, b, hIe, hf, Int.mul_pos hq hej, Int.mul_nonneg (Int.le_of_lt hq) (h0 j), Int.le_of_lt hb, hep, hfp, fun k => ?_⟩
    have := hk k
    rw [Int.mul_sub] at this
    rw [Int.mul_assoc, Int.mul_assoc]; omega
  · refine ⟨e, e, e j, v j, 0, hIe, hIe, hej, h0 j, Int.le_refl _, hep, hep, fun k => ?_⟩
    have : e j * v k - v j * e k = 0 := by
      by_cases h : e j * v k - v j * e k = 0
      · exact h
      · exact absurd ⟨k, h⟩ hwn
    omega

/-- What is less than some times two vectors: one of them fits, or it is small. -/
theorem fit_or {v e f : V} {q a b B : Int} (hq : 0 < q) (ha : 0 ≤ a) (hb : 0 ≤ b) (he : ∀ k, 0 ≤ e k) (hf : ∀ k, 0 ≤ f k) (hk : ∀ k, q * v k = a * e k + b * f k) (hB : ∀ k, e k ≤ B ∧ f k ≤ B) : (∀ k, e k ≤ v k) ∨ (∀ k, f k ≤ v k) ∨ ∀ k, v k ≤ 2 * B := by
  by_cases h1 : q ≤ a
  · refine .inl fun k => Int.le_of_mul_le_mul_left ?_ hq
    have e1 := Int.mul_le_mul_of_nonneg_right h1 (he k)
    have e2 := Int.mul_nonneg hb (hf k)
    have := hk k
    omega
  by_cases h2 : q ≤ b
  · refine .inr (.inl fun k => Int.le_of_mul_le_mul_left ?_ hq)
    have e1 := Int.mul_le_mul_of_nonneg_right h2 (hf k)
    have e2 := Int.mul_nonneg ha (he k)
    have := hk k
    omega
  · refine .inr (.inr fun k => Int.le_of_mul_le_mul_left (a := q) ?_ hq)
    have e1 := Int.mul_le_mul_of_nonneg_right (show a ≤ q by omega) (he k)
    have e2 := Int.mul_le_mul_of_nonneg_right (show b ≤ q by omega) (hf k)
    have e3 := Int.mul_le_mul_of_nonneg_left (hB k).1 (Int.le_of_lt hq)
    have e4 := Int.mul_le_mul_of_nonneg_left (hB k).2 (Int.le_of_lt hq)
    have e5 : q * (2 * B) = q * B + q * B := by rw [Int.two_mul, Int.mul_add]
    have := hk k
    omega
end
end Go.Abs.Cir
