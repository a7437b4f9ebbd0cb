/- Moves, plain: into each move one fits whose numbers are not great. -/
import Derived.Test.YtipfjfmdjmaflaaLU
namespace Go.Abs.Sp
open Go.Abs.Cir
/-- How many rows say something of their own. -/
def rk (rows : List (List Int)) : Nat := match rows.filter (fun r => !(r == z4)) with
  | [] => 0
  | [_] => 1
  | a :: b :: _ => if (minors a b).all (fun d => !(d != 0)) then 1 else 2
theorem mostOf_rk (rows : List (List Int)) : mostOf rows = if rk rows = 0 then 1 else if rk rows = 1 then 3 else 16 := by
  unfold mostOf rk
  generalize rows.filter (fun r => !(r == z4)) = F
  match F with
  | [] => rfl
  | [_] => rfl
  | a :: b :: _ => dsimp only; split <;> rfl
/-- How great numbers of basic moves may be. -/
def bnd (rows : List (List Int)) (n : Nat) : Int := if rk rows = 0 then 1 else if rk rows = 1 then 2 else if n = 4 then 16 else 8
theorem moveB_iff {rows : List (List Int)} (hr : ∀ r ∈ rows, r.length = 4) {x : List Int} (hx : x.length = 4) : moveB rows x = true ↔ ∀ r ∈ rows, dot4 (fnV r) (fnV x) = 0 := by
  unfold moveB
  rw [List.all_eq_true]
  exact ⟨fun h r hm => by rw [← dp_fn (hr r hm) hx]; simpa using h r hm, fun h r hm => by rw [dp_fn (hr r hm) hx, h r hm]; rfl⟩
theorem moveB_L4 {rows : List (List Int)} (hr : ∀ r ∈ rows, r.length = 4) {u : V} : moveB rows (L4 u) = true ↔ ∀ r ∈ rows, dot4 (fnV r) u = 0 := by
  rw [moveB_iff hr rfl]
  have : fnV (L4 u) = u := funext fun k => fnV_L4 u k
  rw [this]
theorem sgnV_sgnV (v x : V) : (fun k => sgnV v k * (sgnV v k * x k)) = x := funext fun k => by rw [← Int.mul_assoc, sgn_sq, Int.one_mul]
section
variable {rows : List (List Int)} {n : Nat} {v : List Int}
theorem Mv.nn (_ : Mv rows n v) : ∀ k, 0 ≤ sgnV (fnV v) k * fnV v k := sgn_nn _
theorem sgn_ne {v : V} {k : Fin 4} : sgnV v k * v k ≠ 0 ↔ v k ≠ 0 := by unfold sgnV; split <;> omega
theorem Mv.nz (h : Mv rows n v) : ∃ k, sgnV (fnV v) k * fnV v k ≠ 0 := by
  obtain ⟨k, hk⟩ := (ne_z4 h.len).1 h.ne
  exact ⟨k, sgn_ne.2 hk⟩
theorem Mv.bal (h : Mv rows n v) (hr : ∀ r ∈ rows, r.length = 4) {r : List Int} (hm : r ∈ rows) : dot4 (fun k => sgnV (fnV v) k * fnV r k) (fun k => sgnV (fnV v) k * fnV v k) = 0 := by
  rw [← dot4_sgn, sgnV_sgnV]
  exact (moveB_iff hr h.len).1 h.mv r hm
/-- From numbers that are not below 0 to a move. -/
theorem Mv.wrap (h : Mv rows n v) (hr : ∀ r ∈ rows, r.length = 4) {B : Int} {u : V} (hu : ∀ k, 0 ≤ u k ∧ u k ≤ sgnV (fnV v) k * fnV v k ∧ u k ≤ B) (hn : ∃ k, u k ≠ 0) (hm : ∀ r ∈ rows, dot4 (fun k => sgnV (fnV v) k * fnV r k) u = 0) :
    ∃ w, Mv rows n w ∧ fitR w v = true ∧ inB B w := by
  refine ⟨L4 fun k => sgnV (fnV v) k * u k, ⟨rfl, fun j hj => ?_, ?_, ?_⟩, within h.len fun k => ⟨(hu k).1, (hu k).2.1⟩, inB_L4 fun k => ?_⟩
  · by_cases hj4 : j < 4
    · have e : (L4 fun k => sgnV (fnV v) k * u k).getD j 0 = sgnV (fnV v) ⟨j, hj4⟩ * u ⟨j, hj4⟩ := fnV_L4 (fun k => sgnV (fnV v) k * u k) ⟨j, hj4⟩
      have h0 : fnV v ⟨j, hj4⟩ = 0 := h.pad j hj
      have := hu ⟨j, hj4⟩
      rw [h0, Int.mul_zero] at this
      rw [e, show u ⟨j, hj4⟩ = 0 by omega, Int.mul_zero]
    · rw [List.getD_eq_getElem?_getD, List.getElem?_eq_none (by simp [L4]; omega)]; rfl
  · rw [ne_z4 rfl]
    obtain ⟨k, hk⟩ := hn
    refine ⟨k, ?_⟩
    rw [fnV_L4]
    unfold sgnV
    split <;> omega
  · rw [moveB_L4 hr]
    intro r hrm
    rw [dot4_sgn]
    exact hm r hrm
  · have := hu k
    unfold sgnV
    split <;> omega
theorem circ_sgn (σ r s : V) (hσ : ∀ k, σ k * σ k = 1) {i j : Fin 4} (h : circ r s i j ≠ 0) : circ (fun k => σ k * r k) (fun k => σ k * s k) i j ≠ 0 := by
  intro h0
  apply h
  have h00 := hσ 0
  have h11 := hσ 1
  have h22 := hσ 2
  have h33 := hσ 3
  revert h0
  refine four (P := fun i => circ (fun k => σ k * r k) (fun k => σ k * s k) i j = 0 → circ r s i j = 0) ?_ ?_ ?_ ?_ i <;> (refine four (P := fun j => circ (fun k => σ k * r k) (fun k => σ k * s k) _ j = 0 → circ r s _ j = 0) ?_ ?_ ?_ ?_ j <;> (simp only [circ]; intro h0; grind))
theorem circ_bound {r s : V} (hr : ∀ k, -2 ≤ r k ∧ r k ≤ 2) (hs : ∀ k, -2 ≤ s k ∧ s k ≤ 2) (i j : Fin 4) : -8 ≤ circ r s i j ∧ circ r s i j ≤ 8 := by
  have b : ∀ i j : Fin 4, -8 ≤ r i * s j - r j * s i ∧ r i * s j - r j * s i ≤ 8 := fun i j => by
    have h1 := mul_bound (hr i).1 (hr i).2 (hs j).1 (hs j).2
    have h2 := mul_bound (hr j).1 (hr j).2 (hs i).1 (hs i).2
    omega
  have b01 := b 0 1
  have b02 := b 0 2
  have b03 := b 0 3
  have b12 := b 1 2
  have b13 := b 1 3
  have b23 := b 2 3
  refine four (P := fun i => -8 ≤ circ r s i j ∧ circ r s i j ≤ 8) ?_ ?_ ?_ ?_ i <;> (refine four (P := fun j => -8 ≤ circ r s _ j ∧ circ r s _ j ≤ 8) ?_ ?_ ?_ ?_ j <;> (simp only [circ]; omega))
theorem IsC.bound {r s e : V} (hr : ∀ k, -2 ≤ r k ∧ r k ≤ 2) (hs : ∀ k, -2 ≤ s k ∧ s k ≤ 2) (he : IsC (circ r s) e) (k : Fin 4) : -8 ≤ e k ∧ e k ≤ 8 := by
  obtain ⟨j, t, ht, hk, -⟩ := he
  have := circ_bound hr hs j k
  rw [hk k]
  rcases ht with rfl | rfl <;> omega
theorem IsC.mem {K : V → Prop} {C : Fin 4 → V} (P : Plane K C) {e : V} (he : IsC C e) : K e := by
  obtain ⟨j, s, hs, hk, -⟩ := he
  have := P.sub (C j) (C j) s 0 (P.cir j) (P.cir j)
  rwa [show (fun k => s * C j k - 0 * C j k) = e from funext fun k => by rw [hk k]; omega] at this
end
/-- Two rows that say something each. -/
theorem two_rows {rows : List (List Int)} (h2 : rows.length ≤ 2) {a b : List Int} {t : List (List Int)} (h : rows.filter (fun r => !(r == z4)) = a :: b :: t) : rows = [a, b] := by
  have hl := List.length_filter_le (fun r => !(r == z4)) rows
  rw [h] at hl
  simp at hl
  have ht : t = [] := List.eq_nil_of_length_eq_zero (by omega)
  subst ht
  have : rows.filter (fun r => !(r == z4)) = rows := List.filter_sublist.eq_of_length (by rw [h]; simp; omega)
  rw [this] at h
  exact h
theorem minors_all {a b : List Int} (h : (minors a b).all (fun d => !(d != 0)) = true) (i j : Fin 4) : fnV a i * fnV b j = fnV a j * fnV b i := by
  have key : ∀ i j : Nat, i < j → j < 4 → a.getD i 0 * b.getD j 0 - a.getD j 0 * b.getD i 0 = 0 := fun i j hij hj => by
    have := List.all_eq_true.1 h (a.getD i 0 * b.getD j 0 - a.getD j 0 * b.getD i 0) (by
      unfold minors
      exact List.mem_flatMap.2 ⟨j, List.mem_range.2 hj, List.mem_map.2 ⟨i, List.mem_range.2 hij, rfl⟩⟩)
    simpa using this
  unfold fnV
  rcases Nat.lt_trichotomy i.val j.val with hl | he | hg
  · have := key i j hl j.2; omega
  · rw [he]
  · have := key j i hg i.2; omega
theorem minors_some {a b : List Int} (h : (minors a b).all (fun d => !(d != 0)) = false) : ∃ i j, circ (fnV a) (fnV b) i j ≠ 0 := by
  obtain ⟨d, hd, hne⟩ := List.all_eq_false.1 h
  have hne : d ≠ 0 := by simpa using hne
  unfold minors at hd
  obtain ⟨j, hj, hd⟩ := List.mem_flatMap.1 hd
  obtain ⟨i, hi, rfl⟩ := List.mem_map.1 hd
  have hj := List.mem_range.1 hj
  have hi := List.mem_range.1 hi
  rcases (show (i = 0 ∧ j = 1) ∨ (i = 0 ∧ j = 2) ∨ (i = 0 ∧ j = 3) ∨ (i = 1 ∧ j = 2) ∨ (i = 1 ∧ j = 3) ∨ (i = 2 ∧ j = 3) by omega) with ⟨rfl, rfl⟩ | ⟨rfl, rfl⟩ | ⟨rfl, rfl⟩ | ⟨rfl, rfl⟩ | ⟨rfl, rfl⟩ | ⟨rfl, rfl⟩
  · exact ⟨2, 3, hne⟩
  · exact ⟨1, 3, fun h => hne (by have h : -(fnV a 0 * fnV b 2 - fnV a 2 * fnV b 0) = 0 := h; exact (by omega : fnV a 0 * fnV b 2 - fnV a 2 * fnV b 0 = 0))⟩
  · exact ⟨1, 2, hne⟩
  · exact ⟨0, 3, hne⟩
  · exact ⟨0, 2, fun h => hne (by have h : -(fnV a 1 * fnV b 3 - fnV a 3 * fnV b 1) = 0 := h; exact (by omega : fnV a 1 * fnV b 3 - fnV a 3 * fnV b 1 = 0))⟩
  · exact ⟨0, 1, hne⟩

theorem inB_fn {r : List Int} (h : inB 2 r) (k : Fin 4) : -2 ≤ fnV r k ∧ fnV r k ≤ 2 := inB_getD h k.val
/-- **Into each move one fits whose numbers are at most so great.** -/
theorem small {rows : List (List Int)} {n : Nat} (hr : Rows4 rows) (hpad : ∀ r ∈ rows, ∀ j, n ≤ j → r.getD j 0 = 0) (hn : n ≤ 4) {v : List Int} (hv : Mv rows n v) : ∃ u, Mv rows n u ∧ fitR u v = true ∧ inB (bnd rows n) u := by
  obtain ⟨F, hF⟩ : ∃ F, F = rows.filter (fun r => !(r == z4)) := ⟨_, rfl⟩
  have out : ∀ r ∈ rows, r ∉ F → r = z4 := fun r hm hn => by
    rw [hF] at hn
    by_cases h : r = z4
    · exact h
    · exact absurd (List.mem_filter.2 ⟨hm, by simpa using h⟩) hn
  have zero : ∀ u : V, dot4 (fun k => sgnV (fnV v) k * fnV z4 k) u = 0 := fun u => by
    have e : ∀ k, fnV z4 k = 0 := four (P := fun k => fnV z4 k = 0) rfl rfl rfl rfl
    unfold dot4
    simp [e]
  match hF' : F with
  | [] =>
    have hrk : bnd rows n = 1 := by unfold bnd rk; rw [← hF]; rfl
    rw [hrk]
    obtain ⟨k, hk⟩ := hv.nz
    have hk0 := hv.nn k
    refine hv.wrap hr.len (u := fun j => if j = k then 1 else 0) (fun j => ?_) ⟨k, by simp⟩ fun r hm => ?_
    · have := hv.nn j
      show 0 ≤ (if j = k then (1:Int) else 0) ∧ (if j = k then (1:Int) else 0) ≤ _ ∧ (if j = k then (1:Int) else 0) ≤ 1
      split
      · rename_i e; subst e; omega
      · omega
    · rw [out r hm (by simp)]; exact zero _
  | [r] =>
    have hrk : bnd rows n = 2 := by unfold bnd rk; rw [← hF]; rfl
    rw [hrk]
    have hrm : r ∈ rows := (List.mem_filter.1 (by rw [← hF]; simp : r ∈ rows.filter _)).1
    obtain ⟨u, h1, h2, h3⟩ := small1 (fun k => sgn_bnd (fnV v) k (inB_fn (hr.bnd r hrm) k)) hv.nn hv.nz (hv.bal hr.len hrm)
    refine hv.wrap hr.len (u := u) h1 h2 fun s hm => ?_
    by_cases hs : s = r
    · rw [hs]; exact h3
    · rw [out s hm (by simpa using hs)]; exact zero _
  | a :: b :: t =>
    have hrows := two_rows hr.two hF.symm
    subst hrows
    have ha : a ∈ [a, b] := by simp
    have hb : b ∈ [a, b] := by simp
    cases hmin : (minors a b).all (fun d => !(d != 0)) with
    | true =>
      have hrk : bnd [a, b] n = 2 := by unfold bnd rk; rw [← hF]; simp only [hmin]; rfl
      rw [hrk]
      have hpar := minors_all hmin
      have hane : a ≠ z4 := by
        have := (List.mem_filter.1 (by rw [← hF]; simp : a ∈ [a, b].filter _)).2
        simpa using this
      obtain ⟨k, hk⟩ := (ne_z4 (hr.len a ha)).1 hane
      obtain ⟨u, h1, h2, h3⟩ := small1 (fun k => sgn_bnd (fnV v) k (inB_fn (hr.bnd a ha) k)) hv.nn hv.nz (hv.bal hr.len ha)
      refine hv.wrap hr.len (u := u) h1 h2 fun s hm => ?_
      rcases List.mem_cons.1 hm with rfl | hm
      · exact h3
      · simp at hm
        subst hm
        have e : fnV a k * dot4 (fun j => sgnV (fnV v) j * fnV s j) u = fnV s k * dot4 (fun j => sgnV (fnV v) j * fnV a j) u := by
          have p0 := hpar k 0
          have p1 := hpar k 1
          have p2 := hpar k 2
          have p3 := hpar k 3
          unfold dot4
          grind
        rw [h3, Int.mul_zero] at e
        exact (Int.mul_eq_zero.1 e).resolve_left hk
    | false =>
      have hrk : bnd [a, b] n = if n = 4 then 16 else 8 := by unfold bnd rk; rw [← hF]; simp only [hmin]; rfl
      obtain ⟨i, j, hij⟩ := minors_some hmin
      have P := plane (fun k => sgnV (fnV v) k * fnV a k) (fun k => sgnV (fnV v) k * fnV b k) ⟨i, j, circ_sgn _ _ _ (sgn_sq _) hij⟩
      have hbd : ∀ {e : V}, IsC (circ (fun k => sgnV (fnV v) k * fnV a k) (fun k => sgnV (fnV v) k * fnV b k)) e → ∀ k, -8 ≤ e k ∧ e k ≤ 8 := fun he k => IsC.bound (fun k => sgn_bnd (fnV v) k (inB_fn (hr.bnd a ha) k)) (fun k => sgn_bnd (fnV v) k (inB_fn (hr.bnd b hb) k)) he k
      have hKv : dot4 (fun k => sgnV (fnV v) k * fnV a k) (fun k => sgnV (fnV v) k * fnV v k) = 0 ∧ dot4 (fun k => sgnV (fnV v) k * fnV b k) (fun k => sgnV (fnV v) k * fnV v k) = 0 := ⟨hv.bal hr.len ha, hv.bal hr.len hb⟩
      have fin : ∀ {e : V} {B : Int}, 8 ≤ B → IsC (circ (fun k => sgnV (fnV v) k * fnV a k) (fun k => sgnV (fnV v) k * fnV b k)) e → (∀ k, 0 ≤ e k) → (∀ k, e k ≤ sgnV (fnV v) k * fnV v k) → ∃ u, Mv [a, b] n u ∧ fitR u v = true ∧ inB B u := fun {e B} hB he h0 hle => by
        have hm := IsC.mem P he
        have hb8 := hbd he
        obtain ⟨-, -, -, -, hne⟩ := he
        refine hv.wrap hr.len (u := e) (fun k => ⟨h0 k, hle k, by have := (hb8 k).2; omega⟩) hne fun r hrm => ?_
        rcases List.mem_cons.1 hrm with rfl | hrm
        · exact hm.1
        · simp at hrm; subst hrm; exact hm.2
      by_cases hn4 : n = 4
      · rw [hrk, if_pos hn4]
        obtain ⟨e, f, q, α, β, he, hf, hq, hα, hβ, he0, hf0, hk⟩ := P.split hKv hv.nn hv.nz
        rcases fit_or hq hα hβ he0 hf0 hk (B := 8) (fun k => ⟨(hbd he k).2, (hbd hf k).2⟩) with h | h | h
        · exact fin (by decide) he he0 h
        · exact fin (by decide) hf hf0 h
        · refine ⟨v, hv, ?_, fun x hx => ?_⟩
          · rw [fitR_iff rfl]; intro k; omega
          · obtain ⟨k, hk1, hk2⟩ := List.getElem_of_mem hx
            have hk4 : k < 4 := by rw [hv.len] at hk1; exact hk1
            have h9 := h ⟨k, hk4⟩
            have e : fnV v ⟨k, hk4⟩ = x := by unfold fnV; rw [List.getD_eq_getElem?_getD, List.getElem?_eq_getElem hk1, hk2]; rfl
            have h8 := hv.nn ⟨k, hk4⟩
            rw [e] at h9 h8
            unfold sgnV at h9 h8
            split at h9 <;> omega
      · rw [hrk, if_neg hn4]
        have z3 : fnV v 3 = 0 := hv.pad 3 (by omega)
        have za : fnV a 3 = 0 := hpad a ha 3 (by omega)
        have zb : fnV b 3 = 0 := hpad b hb 3 (by omega)
        have hC : ∃ k, circ (fun k => sgnV (fnV v) k * fnV a k) (fun k => sgnV (fnV v) k * fnV b k) 3 k ≠ 0 := by
          obtain ⟨i, j, hij⟩ := P.ne
          by_cases h0 : circ (fun k => sgnV (fnV v) k * fnV a k) (fun k => sgnV (fnV v) k * fnV b k) 3 0 = 0
          · by_cases h1 : circ (fun k => sgnV (fnV v) k * fnV a k) (fun k => sgnV (fnV v) k * fnV b k) 3 1 = 0
            · by_cases h2 : circ (fun k => sgnV (fnV v) k * fnV a k) (fun k => sgnV (fnV v) k * fnV b k) 3 2 = 0
              · exfalso
                apply hij
                simp only [circ] at h0 h1 h2
                refine four (P := fun i => circ (fun k => sgnV (fnV v) k * fnV a k) (fun k => sgnV (fnV v) k * fnV b k) i j = 0) ?_ ?_ ?_ ?_ i <;> (refine four (P := fun j => circ (fun k => sgnV (fnV v) k * fnV a k) (fun k => sgnV (fnV v) k * fnV b k) _ j = 0) ?_ ?_ ?_ ?_ j <;> (simp only [circ, za, zb, Int.mul_zero, Int.zero_mul, Int.sub_zero, Int.neg_zero] <;> omega))
              · exact ⟨2, h2⟩
            · exact ⟨1, h1⟩
          · exact ⟨0, h0⟩
        obtain ⟨e, q, α, he, hq, hα, he0, hk⟩ := P.along hKv hv.nn (j := 3) (by show sgnV (fnV v) 3 * fnV v 3 = 0; rw [z3, Int.mul_zero]) hC hv.nz
        by_cases hqa : q ≤ α
        · refine fin (by decide) he he0 fun k => Int.le_of_mul_le_mul_left ?_ hq
          have e1 := Int.mul_le_mul_of_nonneg_right hqa (he0 k)
          have e2 := hk k
          omega
        · have hle : ∀ k, sgnV (fnV v) k * fnV v k ≤ 8 := fun k => by
            refine Int.le_trans (Int.le_of_mul_le_mul_left (a := q) (c := e k) ?_ hq) (hbd he k).2
            have e1 := Int.mul_le_mul_of_nonneg_right (show α ≤ q by omega) (he0 k)
            have e2 := hk k
            omega
          refine ⟨v, hv, ?_, fun x hx => ?_⟩
          · rw [fitR_iff rfl]; intro k; omega
          · obtain ⟨k, hk1, hk2⟩ := List.getElem_of_mem hx
            have hk4 : k < 4 := by rw [hv.len] at hk1; exact hk1
            have h9 := hle ⟨k, hk4⟩
            have e : fnV v ⟨k, hk4⟩ = x := by unfold fnV; rw [List.getD_eq_getElem?_getD, List.getElem?_eq_getElem hk1, hk2]; rfl
            have h8 := hv.nn ⟨k, hk4⟩
            rw [e] at h9 h8
            unfold sgnV at h9 h8
            split at h9 <;> omega
end Go.Abs.Sp
