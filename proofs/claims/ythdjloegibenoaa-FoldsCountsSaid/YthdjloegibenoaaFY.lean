/- Folds, plain: a row of a map, and a map without its last column. -/
import Derived.Test.YthdjloegibenoaaFX
namespace Go.Abs.Sp
open AVal
def imC (f : Nat → Nat) (c : Cr) : Cr := ⟨f c.a, f c.b, c.s⟩
theorem cross_lt {n : Nat} {D : List Int} (h : Pile n D) {c d : Cr} (hc : c.a < n ∧ c.b < n) (hd : d.a < n ∧ d.b < n) (hf : Far c d) : crossP (placesP D) c d = if c.s = d.s then (ltD D c.a d.a != ltD D c.b d.a) != (ltD D c.a d.b != ltD D c.b d.b) else false := by
  by_cases hs : c.s = d.s
  · obtain ⟨f1, f2, f3, f4⟩ := hf hs
    rw [cross_eq (places_ne h hc.1 hd.1 f1) (places_ne h hc.2 hd.1 f2) (places_ne h hc.1 hd.2 f3) (places_ne h hc.2 hd.2 f4), places_lt h hc.1 hd.1, places_lt h hc.2 hd.1, places_lt h hc.1 hd.2, places_lt h hc.2 hd.2]
  · rw [crossP, if_neg hs, if_neg hs]
/-- A pile of some of another pile's leaves. -/
theorem sub_poss {n m : Nat} {D E : List Int} (hD : Pile n D) (hE : Pile m E) (f : Nat → Nat) (hf : ∀ a, a < m → f a < n) (hinj : ∀ a b, a < m → b < m → a ≠ b → f a ≠ f b) (hlt : ∀ a b, a < m → b < m → ltD E a b = ltD D (f a) (f b))
    {l l' : List Cr} (hl' : ∀ c ∈ l', c.a < m ∧ c.b < m) (hfar : l'.Pairwise Far) (hsub : (l'.map (imC f)).Sublist l) (hp : possP D l = true) : possP E l' = true := by
  rw [poss_pairs] at hp ⊢
  have h1 := hp.sublist hsub
  rw [List.pairwise_map] at h1
  refine (h1.and hfar).imp_of_mem fun {c d} hc hd hx => ?_
  obtain ⟨hx, hcd⟩ := hx
  obtain ⟨ca, cb⟩ := hl' c hc
  obtain ⟨da, db⟩ := hl' d hd
  rw [cross_lt hE ⟨ca, cb⟩ ⟨da, db⟩ hcd]
  rw [cross_lt hD ⟨hf _ ca, hf _ cb⟩ ⟨hf _ da, hf _ db⟩ (fun hs => by
    obtain ⟨f1, f2, f3, f4⟩ := hcd hs
    exact ⟨hinj _ _ ca da f1, hinj _ _ cb da f2, hinj _ _ ca db f3, hinj _ _ cb db f4⟩)] at hx
  dsimp only [imC] at hx
  rw [hlt _ _ ca da, hlt _ _ cb da, hlt _ _ ca db, hlt _ _ cb db]
  exact hx
theorem idx_map {g : Int → Int} {a y : Int} : ∀ l : List Int, (∀ x ∈ l, g x = a ↔ x = y) → (l.map g).idxOf a = l.idxOf y
  | [], _ => rfl
  | x :: l, h => by
    have hx := h x (by simp)
    have ih := idx_map l fun z hz => h z (by simp [hz])
    rw [List.map_cons, List.idxOf_cons, List.idxOf_cons, ih]
    by_cases he : x = y
    · rw [show (g x == a) = true by rw [beq_iff_eq]; exact hx.2 he, show (x == y) = true by simp [he]]
    · rw [show (g x == a) = false by rw [beq_eq_false_iff_ne]; exact fun hg => he (hx.1 hg), show (x == y) = false by simp [he]]
theorem pile_of {m : Nat} {E : List Int} (hr : ∀ x ∈ E, 0 ≤ x ∧ x < m) (hc : ∀ j : Nat, j < m → (j : Int) ∈ E) (hn : E.Nodup) : Pile m E := by
  refine ⟨?_, hr, hc, hn⟩
  have hn2 : ((List.range m).map fun i : Nat => (i : Int)).Nodup := by
    rw [List.nodup_iff_pairwise_ne, List.pairwise_map]
    exact (List.nodup_iff_pairwise_ne.1 List.nodup_range).imp fun h e => h (by omega)
  have hp : E.Perm ((List.range m).map fun i : Nat => (i : Int)) := by
    rw [List.perm_iff_count]
    intro a
    rw [hn.count, hn2.count]
    by_cases ha : a ∈ E
    · have := hr a ha
      rw [if_pos ha, if_pos (List.mem_map.2 ⟨a.toNat, List.mem_range.2 (by omega), by omega⟩)]
    · rw [if_neg ha, if_neg]
      intro hm
      obtain ⟨i, hi, rfl⟩ := List.mem_map.1 hm
      exact ha (hc i (List.mem_range.1 hi))
  rw [hp.length_eq]; simp
/-- Some leaves of a pile, with other names. -/
def partL (q : Int → Bool) (g : Int → Int) (D : List Int) : List Int := (D.filter q).map g
theorem part_pile {n m : Nat} {D : List Int} (h : Pile n D) {q : Int → Bool} {g : Int → Int} (f : Nat → Nat) (hf : ∀ a, a < m → f a < n ∧ q (f a) = true ∧ g (f a) = a) (hg : ∀ x ∈ D, q x = true → 0 ≤ g x ∧ g x < m ∧ (f (g x).toNat : Int) = x) :
    Pile m (partL q g D) ∧ ∀ a b, a < m → b < m → ltD (partL q g D) a b = ltD D (f a) (f b) := by
  have hgi : ∀ x, x ∈ D.filter q → ∀ a : Nat, a < m → (g x = a ↔ x = f a) := fun x hx a ha => by
    obtain ⟨hxD, hxq⟩ := List.mem_filter.1 hx
    obtain ⟨g0, g1, g2⟩ := hg x hxD hxq
    constructor
    · intro e; rw [e, Int.toNat_natCast] at g2; exact g2.symm
    · rintro rfl; exact (hf a ha).2.2
  constructor
  · refine pile_of (fun x hx => ?_) (fun j hj => ?_) ?_
    · obtain ⟨y, hy, rfl⟩ := List.mem_map.1 hx
      obtain ⟨hyD, hyq⟩ := List.mem_filter.1 hy
      exact ⟨(hg y hyD hyq).1, (hg y hyD hyq).2.1⟩
    · obtain ⟨f1, f2, f3⟩ := hf j hj
      exact List.mem_map.2 ⟨f j, List.mem_filter.2 ⟨h.cov _ f1, f2⟩, f3⟩
    · rw [partL, List.nodup_iff_pairwise_ne, List.pairwise_map]
      refine (List.nodup_iff_pairwise_ne.1 (h.nd.filter q)).imp_of_mem fun {x y} hx hy hxy e => ?_
      obtain ⟨hxD, hxq⟩ := List.mem_filter.1 hx
      obtain ⟨hyD, hyq⟩ := List.mem_filter.1 hy
      apply hxy
      rw [← (hg x hxD hxq).2.2, ← (hg y hyD hyq).2.2, e]
  · intro a b ha hb
    rw [ltD, ltD, partL, idx_map _ (fun x hx => hgi x hx a ha), idx_map _ (fun x hx => hgi x hx b hb), decide_eq_decide]
    exact Go.Proofs.Ythdjloegibenoaa.filter_idx (hf a ha).2.1 (hf b hb).2.1 D
/-- A row of a map. -/
def rowL (n r : Nat) (D : List Int) : List Int := partL (fun x => x.toNat / n == r) (fun x => ((x.toNat % n : Nat) : Int)) D
/-- A map without its last column. -/
def lessL (n : Nat) (D : List Int) : List Int := partL (fun x => decide (x.toNat % n < n - 1)) (fun x => ((x.toNat / n * (n - 1) + x.toNat % n : Nat) : Int)) D
theorem row_sub : ∀ n, n ≤ 4 → ∀ r, r < 2 → ((stripC n).map (imC (r * n + ·))).Sublist (planP n) := by decide +kernel
theorem far_strip : ∀ n, n ≤ 4 → (stripC n).Pairwise Far := by decide +kernel
theorem less_sub : ∀ n, n ≤ 4 → ((planP (n - 1)).map (imC fun a => a / (n - 1) * n + a % (n - 1))).Sublist (planP n) := by decide +kernel
theorem row_dec : ∀ n, n ≤ 4 → 1 ≤ n → ∀ r, r < 2 → ∀ a, a < n → (r * n + a) / n = r ∧ (r * n + a) % n = a ∧ r * n + a < 2 * n := by decide +kernel
theorem row_back : ∀ n, n ≤ 4 → 1 ≤ n → ∀ x, x < 2 * n → x % n < n ∧ x / n * n + x % n = x ∧ x / n < 2 := by decide +kernel
theorem less_dec : ∀ n, n ≤ 4 → 2 ≤ n → ∀ a, a < 2 * (n - 1) → (a / (n - 1) * n + a % (n - 1)) < 2 * n ∧ (a / (n - 1) * n + a % (n - 1)) % n < n - 1 ∧ (a / (n - 1) * n + a % (n - 1)) / n * (n - 1) + (a / (n - 1) * n + a % (n - 1)) % n = a := by decide +kernel
theorem less_back : ∀ n, n ≤ 4 → 2 ≤ n → ∀ x, x < 2 * n → x % n < n - 1 → x / n * (n - 1) + x % n < 2 * (n - 1) ∧ (x / n * (n - 1) + x % n) / (n - 1) * n + (x / n * (n - 1) + x % n) % (n - 1) = x := by decide +kernel
theorem row_poss {n : Nat} (h1 : 1 ≤ n) (h4 : n ≤ 4) {D : List Int} (h : Pile (2 * n) D) (hp : possP D (planP n) = true) {r : Nat} (hr : r < 2) : Pile n (rowL n r D) ∧ possP (rowL n r D) (stripC n) = true := by
  obtain ⟨p1, p2⟩ := part_pile (m := n) h (q := fun x => x.toNat / n == r) (g := fun x => ((x.toNat % n : Nat) : Int)) (r * n + ·)
    (fun a ha => by
      obtain ⟨e1, e2, e3⟩ := row_dec n h4 h1 r hr a ha
      exact ⟨e3, by simp only [Int.toNat_natCast, e1, beq_self_eq_true], by simp only [Int.toNat_natCast, e2]⟩)
    (fun x hx hq => by
      have hxr := h.rng x hx
      obtain ⟨e1, e2, e3⟩ := row_back n h4 h1 x.toNat (by omega)
      have hq : x.toNat / n = r := by simpa using hq
      rw [hq] at e2
      refine ⟨by omega, by omega, ?_⟩
      simp only [Int.toNat_natCast, e2]; omega)
  refine ⟨p1, sub_poss h p1 (r * n + ·) (fun a ha => (row_dec n h4 h1 r hr a ha).2.2) (fun a b _ _ hab => by omega) p2 (fun c hc => stripC_ok hc) (far_strip n h4) (row_sub n h4 r hr) hp⟩
theorem less_poss {n : Nat} (h2 : 2 ≤ n) (h4 : n ≤ 4) {D : List Int} (h : Pile (2 * n) D) (hp : possP D (planP n) = true) : Pile (2 * (n - 1)) (lessL n D) ∧ possP (lessL n D) (planP (n - 1)) = true := by
  obtain ⟨p1, p2⟩ := part_pile (m := 2 * (n - 1)) h (q := fun x => decide (x.toNat % n < n - 1)) (g := fun x => ((x.toNat / n * (n - 1) + x.toNat % n : Nat) : Int)) (fun a => a / (n - 1) * n + a % (n - 1))
    (fun a ha => by
      obtain ⟨e1, e2, e3⟩ := less_dec n h4 h2 a ha
      exact ⟨e1, by simp only [Int.toNat_natCast, e2, decide_true], by simp only [Int.toNat_natCast, e3]⟩)
    (fun x hx hq => by
      have hxr := h.rng x hx
      obtain ⟨e1, e2⟩ := less_back n h4 h2 x.toNat (by omega) (by simpa using hq)
      refine ⟨by omega, by omega, ?_⟩
      simp only [Int.toNat_natCast, e2]; omega)
  refine ⟨p1, sub_poss h p1 (fun a => a / (n - 1) * n + a % (n - 1)) (fun a ha => (less_dec n h4 h2 a ha).1) (fun a b ha hb hab e => ?_) p2 (fun c hc => planP_ok (n - 1) (by omega) c hc) (far_P (n - 1) (by omega)) (less_sub n h4) hp⟩
  have e1 := (less_dec n h4 h2 a ha).2.2
  have e2 := (less_dec n h4 h2 b hb).2.2
  rw [e] at e1
  omega
end Go.Abs.Sp
