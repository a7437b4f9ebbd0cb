/- Plain: how far apart the prices of a family are. -/
import Derived.Test.YtipfjfmdjmaflaaNE
namespace Go.Abs.Sp
open Go.Abs.Cir Go.Proofs.Ytipfjfmdjmaflaa
theorem abs_mul {p d : Int} (hp : -2 ≤ p ∧ p ≤ 2) : p * d ≤ 2 * (d.natAbs : Int) := by
  have h1 : (p * d).natAbs ≤ 2 * d.natAbs := by rw [Int.natAbs_mul]; exact Nat.mul_le_mul_right _ (by omega)
  omega
theorem det3 {a b c x y z : Int} (ha : -2 ≤ a ∧ a ≤ 2) (hb : -2 ≤ b ∧ b ≤ 2) (hc : -2 ≤ c ∧ c ≤ 2) (hx : -2 ≤ x ∧ x ≤ 2) (hy : -2 ≤ y ∧ y ≤ 2) (hz : -2 ≤ z ∧ z ≤ 2) : a * (y - z) + b * (z - x) + c * (x - y) ≤ 16 := by
  have h1 := abs_mul (d := y - z) ha
  have h2 := abs_mul (d := z - x) hb
  have h3 := abs_mul (d := x - y) hc
  omega
theorem circ_sum {r s : V} (hr : ∀ k, -2 ≤ r k ∧ r k ≤ 2) (hs : ∀ k, -2 ≤ s k ∧ s k ≤ 2) (j : Fin 4) {t : Int} (ht : t = 1 ∨ t = -1) : t * circ r s j 0 + t * circ r s j 1 + t * circ r s j 2 + t * circ r s j 3 ≤ 16 := by
  have d := fun i j k : Fin 4 => det3 (hr i) (hr j) (hr k) (hs i) (hs j) (hs k)
  rcases ht with rfl | rfl
  · refine four (P := fun j => 1 * circ r s j 0 + 1 * circ r s j 1 + 1 * circ r s j 2 + 1 * circ r s j 3 ≤ 16) ?_ ?_ ?_ ?_ j
    · have := d 1 2 3; simp only [circ]; grind
    · have := d 0 3 2; simp only [circ]; grind
    · have := d 0 1 3; simp only [circ]; grind
    · have := d 0 2 1; simp only [circ]; grind
  · refine four (P := fun j => -1 * circ r s j 0 + -1 * circ r s j 1 + -1 * circ r s j 2 + -1 * circ r s j 3 ≤ 16) ?_ ?_ ?_ ?_ j
    · have := d 1 3 2; simp only [circ]; grind
    · have := d 0 2 3; simp only [circ]; grind
    · have := d 0 3 1; simp only [circ]; grind
    · have := d 0 1 2; simp only [circ]; grind
theorem IsC.sum {r s e : V} (hr : ∀ k, -2 ≤ r k ∧ r k ≤ 2) (hs : ∀ k, -2 ≤ s k ∧ s k ≤ 2) (he : IsC (circ r s) e) : e 0 + e 1 + e 2 + e 3 ≤ 16 := by
  obtain ⟨j, t, ht, hk, -⟩ := he
  rw [hk 0, hk 1, hk 2, hk 3]
  exact circ_sum hr hs j ht
theorem dp_low {p : List Int} (hp : p.length = 4) {c : Int} : ∀ {l : List (List Int)}, (∀ b ∈ l, b.length = 4 ∧ -c ≤ dp p b) → -(c * (l.length : Int)) ≤ p.getD 0 0 * sumC l 0 + p.getD 1 0 * sumC l 1 + p.getD 2 0 * sumC l 2 + p.getD 3 0 * sumC l 3
  | [], _ => by simp [sumC]
  | b :: l, h => by
    have h1 := dp_low hp (l := l) fun y hy => h y (by simp [hy])
    obtain ⟨h2, h3⟩ := h b (by simp)
    rw [dp_four hp h2] at h3
    have e : c * ((b :: l).length : Int) = c * (l.length : Int) + c := by rw [List.length_cons, Int.natCast_add, Int.mul_add]; simp
    rw [e]
    simp only [sumC, List.foldr_cons] at h1 ⊢
    grind
section
variable {a : List (List Int)} {X Y P : List Int}
/-- Where no basic move is pure, no move is. -/
theorem no_pure (hm : mat a = true) (hnp : ∀ m, Mini (a.map Sp.pad) (a.getD 0 []).length m → posV m = false) {x : List Int} (hx : Mv (a.map Sp.pad) (a.getD 0 []).length x) : posV x = false := by
  cases hp : posV x with
  | false => rfl
  | true =>
    exfalso
    obtain ⟨l, hl⟩ := split_ex hm hx.len hx.pad hx.mv
    cases l with
    | nil =>
      apply hx.ne
      refine ext4 hx.len rfl fun j => ?_
      rw [hl.sum j, z4_getD]; simp [sumC]
    | cons b l =>
      obtain ⟨hb, hf⟩ := hl.each b (by simp)
      have hf := (fitR_iff (by rw [hb.mv.len, hx.len])).1 hf
      have := hnp b hb
      rw [posV_get.2 fun j => by
        have h1 := hf j
        have h2 := (posV_get.1 hp) j
        omega] at this
      cases this
/-- Where the prices of two of a family are, if all basic moves are small. -/
theorem gap_small (hm : mat a = true) (hX : X.length = 4) (hXp : ∀ j, (a.getD 0 []).length ≤ j → X.getD j 0 = 0) (hb : inB 6 X) (hP : P.length = 4) (bP : inB 9 P) (hnp : ∀ m, Mini (a.map Sp.pad) (a.getD 0 []).length m → posV m = false) (h2 : bnd (a.map Sp.pad) (a.getD 0 []).length ≤ 2) (h : Fam (a.map Sp.pad) (a.getD 0 []).length X Y) : dp P X - dp P Y ≤ 1728 := by
  obtain ⟨l, hl⟩ := h.split hm hX hXp
  obtain ⟨r1, r2, -, n4⟩ := mat_cols hm rfl
  have hD : (plusV (-1) Y X).length = 4 := plusV_len h.len hX
  have Yp := posV_get.1 h.pos
  have hc := cut_count hD (l := l) fun b hb => ⟨(hl.each b hb).1.mv.len, (hl.each b hb).2, hnp b (hl.each b hb).1⟩
  have xb : ∀ j, X.getD j 0 ≤ 6 := fun j => (inB_getD hb j).2
  have hlen : (l.length : Int) ≤ 24 := by
    have e : ∀ j, (if (plusV (-1) Y X).getD j 0 < 0 then -sumC l j else 0) ≤ 6 := fun j => by
      split
      · rw [← hl.sum j, plusV_get h.len hX]
        have := xb j
        have := Yp j
        omega
      · decide
    have e0 := e 0
    have e1 := e 1
    have e2 := e 2
    have e3 := e 3
    omega
  have hd := dp_low hP (c := 72) (l := l) fun b hb => by
    obtain ⟨hb1, hb2⟩ := hl.each b hb
    have := dp_bound (A := 9) (M := 2) (by decide) (by decide) bP (inB_mono (hb1.bnd r1 r2 n4) h2)
    rw [hP] at this
    exact ⟨hb1.mv.len, by omega⟩
  rw [← hl.sum 0, ← hl.sum 1, ← hl.sum 2, ← hl.sum 3, ← dp_four hP hD, dp_plus (by rw [h.len, hX])] at hd
  omega
theorem gap (hm : mat a = true) (hX : X.length = 4) (hXp : ∀ j, (a.getD 0 []).length ≤ j → X.getD j 0 = 0) (hb : inB 6 X) (hP : P.length = 4) (bP : inB 9 P) (hnp : ∀ m, Mini (a.map Sp.pad) (a.getD 0 []).length m → posV m = false) (h : Fam (a.map Sp.pad) (a.getD 0 []).length X Y) : dp P X - dp P Y ≤ 1728 := by
  by_cases h2 : bnd (a.map Sp.pad) (a.getD 0 []).length ≤ 2
  · exact gap_small hm hX hXp hb hP bP hnp h2 h
  obtain ⟨r1, r2, -, n4⟩ := mat_cols hm rfl
  obtain ⟨n, hn⟩ : ∃ n, (a.getD 0 []).length = n := ⟨_, rfl⟩
  obtain ⟨rows, hrows⟩ : ∃ rows, a.map Sp.pad = rows := ⟨_, rfl⟩
  have hnp' : ∀ x, Mv rows n x → posV x = false := fun x hx => no_pure hm hnp (by rw [hrows, hn]; exact hx)
  rw [hrows, hn] at h2 h
  rw [hrows] at r1
  obtain ⟨s, t, hst, hmin⟩ : ∃ s t, rows = [s, t] ∧ (minors s t).all (fun d => !(d != 0)) = false := by
    match hF' : rows.filter (fun r => !(r == z4)) with
    | [] => exfalso; apply h2; unfold bnd rk; rw [hF']; simp
    | [_] => exfalso; apply h2; unfold bnd rk; rw [hF']; simp
    | s :: t :: u =>
      have hr := two_rows r1.two hF'
      refine ⟨s, t, hr, ?_⟩
      cases hmin : (minors s t).all (fun d => !(d != 0)) with
      | false => rfl
      | true => exfalso; apply h2; unfold bnd rk; rw [hF']; simp [hmin]
  have hD : (plusV (-1) Y X).length = 4 := plusV_len h.len hX
  obtain ⟨D, hDe⟩ : ∃ D, plusV (-1) Y X = D := ⟨_, rfl⟩
  have Dg : ∀ j, D.getD j 0 = Y.getD j 0 - X.getD j 0 := fun j => by rw [← hDe, plusV_get h.len hX]; omega
  have Ddp : dp P D = dp P Y - dp P X := by rw [← hDe, dp_plus (by rw [h.len, hX])]; omega
  rw [hDe] at hD
  have Yp := posV_get.1 h.pos
  have xb : ∀ j, X.getD j 0 ≤ 6 := fun j => (inB_getD hb j).2
  by_cases hz : D = z4
  · have : dp P D = 0 := by rw [hz]; exact dp_zero (by simp [z4])
    omega
  have hMv : Mv rows n D := ⟨hD, fun j hj => by rw [Dg j, h.pad j hj, hXp j (by omega)]; omega, hz, by rw [← hDe]; exact h.mv⟩
  have hs : s ∈ rows := by rw [hst]; simp
  have ht : t ∈ rows := by rw [hst]; simp
  have bs := fun k => sgn_bnd (fnV D) k (inB_fn (r1.bnd s hs) k)
  have bt := fun k => sgn_bnd (fnV D) k (inB_fn (r1.bnd t ht) k)
  obtain ⟨i, j, hij⟩ := minors_some hmin
  have hpl := plane (fun k => sgnV (fnV D) k * fnV s k) (fun k => sgnV (fnV D) k * fnV t k) ⟨i, j, circ_sgn _ _ _ (sgn_sq _) hij⟩
  obtain ⟨e, f, q, α, β, he, hf, hq, hα, hβ, he0, hf0, hsum⟩ := hpl.split ⟨hMv.bal r1.len hs, hMv.bal r1.len ht⟩ hMv.nn hMv.nz
  have ve : ∀ k, sgnV (fnV D) k * fnV D k = (fnV D k).natAbs := fun k => by unfold sgnV; split <;> omega
  -- one circuit does not go further than six times
  have one : ∀ {g : V} {γ : Int}, IsC (circ (fun k => sgnV (fnV D) k * fnV s k) (fun k => sgnV (fnV D) k * fnV t k)) g → 0 ≤ γ → (∀ k, 0 ≤ g k) → (∀ k, γ * g k ≤ q * (sgnV (fnV D) k * fnV D k)) → γ ≤ 6 * q := fun {g γ} hg hγ hg0 hle => by
    by_cases hγ0 : γ = 0
    · omega
    have hgK := IsC.mem hpl hg
    have gz : ∀ k, fnV D k = 0 → g k = 0 := fun k hk => by
      have h1 := hle k
      rw [hk, Int.mul_zero, Int.mul_zero] at h1
      have h2 := hg0 k
      have h3 : γ * g k = 0 := by have := Int.mul_nonneg hγ h2; omega
      rcases Int.mul_eq_zero.1 h3 with h4 | h4
      · exact absurd h4 hγ0
      · exact h4
    have hw : Mv rows n (L4 fun k => sgnV (fnV D) k * g k) := by
      refine ⟨rfl, fun j hj => ?_, ?_, ?_⟩
      · by_cases hj4 : j < 4
        · have e : (L4 fun k => sgnV (fnV D) k * g k).getD j 0 = sgnV (fnV D) ⟨j, hj4⟩ * g ⟨j, hj4⟩ := fnV_L4 (fun k => sgnV (fnV D) k * g k) ⟨j, hj4⟩
          rw [e, gz ⟨j, hj4⟩ (hMv.pad j hj), Int.mul_zero]
        · rw [List.getD_eq_getElem?_getD, List.getElem?_eq_none (by simp [L4]; omega)]; rfl
      · rw [ne_z4 rfl]
        obtain ⟨j, t', ht', hk, k, hk0⟩ := hg
        refine ⟨k, ?_⟩
        rw [fnV_L4]
        unfold sgnV
        split <;> omega
      · rw [moveB_L4 r1.len]
        intro r hrm
        rw [dot4_sgn]
        rw [hst] at hrm
        rcases List.mem_cons.1 hrm with rfl | hrm
        · exact hgK.1
        · simp at hrm; subst hrm; exact hgK.2
    have hnp2 := hnp' _ hw
    obtain ⟨k, hk⟩ : ∃ k : Fin 4, sgnV (fnV D) k * g k < 0 := by
      refine Decidable.byContradiction fun hc => ?_
      have : posV (L4 fun k => sgnV (fnV D) k * g k) = true := posV_get.2 fun j => by
        by_cases hj4 : j < 4
        · have e : (L4 fun k => sgnV (fnV D) k * g k).getD j 0 = sgnV (fnV D) ⟨j, hj4⟩ * g ⟨j, hj4⟩ := fnV_L4 (fun k => sgnV (fnV D) k * g k) ⟨j, hj4⟩
          rw [e]
          exact Int.not_lt.1 fun h => hc ⟨⟨j, hj4⟩, h⟩
        · rw [List.getD_eq_getElem?_getD, List.getElem?_eq_none (by simp [L4]; omega)]; simp
      rw [this] at hnp2; cases hnp2
    have hDn : fnV D k < 0 := by
      refine Int.not_le.1 fun h => ?_
      have h0 := hg0 k
      unfold sgnV at hk
      rw [if_neg (by omega)] at hk
      omega
    have hg1 : 1 ≤ g k := by
      have h0 := hg0 k
      by_cases h : g k = 0
      · rw [h, Int.mul_zero] at hk; omega
      · omega
    have h6 : sgnV (fnV D) k * fnV D k ≤ 6 := by
      rw [ve k]
      have h1 : fnV D k = Y.getD k.val 0 - X.getD k.val 0 := Dg k.val
      have h2 := Yp k.val
      have h3 := xb k.val
      omega
    have h7 := hle k
    have h8 : γ * 1 ≤ γ * g k := Int.mul_le_mul_of_nonneg_left hg1 hγ
    have h9 : q * (sgnV (fnV D) k * fnV D k) ≤ q * 6 := Int.mul_le_mul_of_nonneg_left h6 (by omega)
    omega
  have hα6 := one he hα he0 fun k => by have h1 := hsum k; have := Int.mul_nonneg hβ (hf0 k); omega
  have hβ6 := one hf hβ hf0 fun k => by have h1 := hsum k; have := Int.mul_nonneg hα (he0 k); omega
  have se := IsC.sum bs bt he
  have sf := IsC.sum bs bt hf
  have s1 : α * (e 0 + e 1 + e 2 + e 3) ≤ α * 16 := Int.mul_le_mul_of_nonneg_left se hα
  have s2 : β * (f 0 + f 1 + f 2 + f 3) ≤ β * 16 := Int.mul_le_mul_of_nonneg_left sf hβ
  have tot : q * (sgnV (fnV D) 0 * fnV D 0 + sgnV (fnV D) 1 * fnV D 1 + sgnV (fnV D) 2 * fnV D 2 + sgnV (fnV D) 3 * fnV D 3) ≤ q * 192 := by
    have h0 := hsum 0
    have h1 := hsum 1
    have h2 := hsum 2
    have h3 := hsum 3
    rw [Int.mul_add, Int.mul_add, Int.mul_add] at s1 s2 ⊢
    omega
  have tot2 := Int.le_of_mul_le_mul_left tot hq
  rw [ve 0, ve 1, ve 2, ve 3] at tot2
  have b := fun k : Fin 4 => mul_bnd (x := P.getD k.val 0) (p := fnV D k) (A := 9) (B := (fnV D k).natAbs) (inB_getD bP k.val) (by omega)
  have b0 := b 0
  have b1 := b 1
  have b2 := b 2
  have b3 := b 3
  have hfour := dp_four hP hD
  have c0 : fnV D 0 = D.getD 0 0 := rfl
  have c1 : fnV D 1 = D.getD 1 0 := rfl
  have c2 : fnV D 2 = D.getD 2 0 := rfl
  have c3 : fnV D 3 = D.getD 3 0 := rfl
  have v0 : ((0 : Fin 4)).val = 0 := rfl
  have v1 : ((1 : Fin 4)).val = 1 := rfl
  have v2 : ((2 : Fin 4)).val = 2 := rfl
  have v3 : ((3 : Fin 4)).val = 3 := rfl
  rw [v0] at b0
  rw [v1] at b1
  rw [v2] at b2
  rw [v3] at b3
  rw [c0] at b0
  rw [c1] at b1
  rw [c2] at b2
  rw [c3] at b3
  rw [c0, c1, c2, c3] at tot2
  omega
end
end Go.Abs.Sp
