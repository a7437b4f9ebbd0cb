/- Plain: what is kept of any list of moves; CheckSplit and IsSplit tell the same. -/
import Derived.Test.YtipfjfmdjmaflaaMS
import Derived.Test.YtipfjfmdjmaflaaMM
namespace Go.Abs.Sp
open Go.Abs.Cir Go.Proofs.Ytipfjfmdjmaflaa
/-- What is kept of all moves up to a bound, by size. -/
theorem mem_keepM {rows : List (List Int)} {n : Nat} {M : Int} (hr : Rows4 rows) (hpad : ∀ r ∈ rows, ∀ j, n ≤ j → r.getD j 0 = 0) (hn : n ≤ 4) (hM : bnd rows n ≤ M) {l : List (List Int)} (hm : ∀ x, x ∈ l ↔ Mv rows n x ∧ inB M x) (hs : l.Pairwise (fun x y => size x ≤ size y)) {x : List Int} : x ∈ keepMin [] l ↔ Mini rows n x := by
  have h4 : ∀ x ∈ l, x.length = 4 := fun x hx => ((hm x).1 hx).1.len
  obtain ⟨l', h1, h2⟩ := keepMin_app l []
  rw [List.nil_append] at h1
  constructor
  · intro hx
    have hxl : x ∈ l := by rw [h1] at hx; exact h2.subset hx
    refine ⟨((hm x).1 hxl).1, fun y hy hf => ?_⟩
    obtain ⟨u, u1, u2, u3⟩ := small hr hpad hn hy
    have hul : u ∈ l := (hm u).2 ⟨u1, inB_mono u3 hM⟩
    have e := keepMin_min h4 hs hx hul (fitR_trans u1.len hy.len (h4 x hxl) u2 hf)
    rw [e] at u2
    exact fitR_anti hy.len (h4 x hxl) hf u2
  · intro h
    have hxl : x ∈ l := (hm x).2 ⟨h.mv, inB_mono (h.bnd hr hpad hn) hM⟩
    obtain ⟨y, hy, hf⟩ := keepMin_cov l [] x hxl
    have hyl : y ∈ l := by rw [h1] at hy; exact h2.subset hy
    rw [← h.min y ((hm y).1 hyl).1 hf]; exact hy
theorem pad_inj {n : Nat} {x y : List Int} (hx : x.length = n) (hy : y.length = n) (h : pad x = pad y) : x = y := by rw [← pad_take hx, ← pad_take hy, h]
theorem pad_plus {n : Nat} {x y : List Int} (hx : x.length = n) (hy : y.length = n) : pad (plusV 1 x y) = plusV 1 (pad x) (pad y) := by
  unfold pad plusV
  rw [List.zipWith_append (by omega), List.length_zipWith, hx, hy, Nat.min_self]
  congr 1
  refine List.ext_getElem (by simp) fun i h1 h2 => by simp
theorem fitR_unpad2 {x y : List Int} (h : x.length = y.length) : fitR (pad x) (pad y) = fitR x y := by
  rw [Bool.eq_iff_iff]
  refine ⟨fun hf => ?_, fitR_pad h⟩
  rw [fitR_iff (by unfold pad; simp [h])] at hf
  rw [fitR_iff h]
  intro k
  by_cases hk : k < x.length
  · have := hf k
    have e : ∀ {z : List Int}, k < z.length → (pad z).getD k 0 = z.getD k 0 := fun {z} hz => by
      unfold pad
      rw [List.getD_eq_getElem?_getD, List.getElem?_append_left hz, List.getD_eq_getElem?_getD]
    rw [e hk, e (by omega)] at this; exact this
  · rw [List.getD_eq_getElem?_getD, List.getElem?_eq_none (by omega), List.getD_eq_getElem?_getD, List.getElem?_eq_none (by omega)]; simp
/-- What does not fit on the way does not sum to it. -/
theorem isGo_no {B : List (List Int)} {x : List Int} {n : Nat} (hx : x.length = n) (h8 : ∀ y ∈ B, y.length = n) : ∀ (l : List (List Int)) {S : List Int}, S.length = n → (∃ j, (0 ≤ x.getD j 0 ∧ x.getD j 0 < S.getD j 0) ∨ (x.getD j 0 ≤ 0 ∧ S.getD j 0 < x.getD j 0)) → isGo B x S l = false
  | [], S, hS, ⟨j, hj⟩ => by
    unfold isGo
    refine beq_eq_false_iff_ne.2 fun e => ?_
    subst e; omega
  | s :: l, S, hS, ⟨j, hj⟩ => by
    unfold isGo
    by_cases h : (B.contains s && fitR s x) = true
    · rw [if_pos h]
      rw [Bool.and_eq_true, List.contains_iff_mem] at h
      have sl := h8 s h.1
      have hf := (fitR_iff (by omega)).1 h.2 j
      refine isGo_no hx h8 l (by simp [plusV, hS, sl]) ⟨j, ?_⟩
      have g : (plusV 1 S s).getD j 0 = S.getD j 0 + s.getD j 0 := by
        unfold plusV
        rw [List.getD_eq_getElem?_getD, List.getD_eq_getElem?_getD, List.getD_eq_getElem?_getD]
        by_cases hjn : j < n
        · rw [List.getElem?_eq_getElem (by simp; omega), List.getElem?_eq_getElem (by omega), List.getElem?_eq_getElem (by omega), List.getElem_zipWith]; simp
        · rw [List.getElem?_eq_none (by simp; omega), List.getElem?_eq_none (by omega), List.getElem?_eq_none (by omega)]; simp
      rw [g]
      omega
    · rw [if_neg h]
/-- CheckSplit and IsSplit tell the same. -/
theorem check_is {B : List (List Int)} {x : List Int} {n : Nat} (hx : x.length = n) (h8 : ∀ y ∈ B, y.length = n) : ∀ (l : List (List Int)) {S : List Int}, S.length = n → fitR S x = true → checkL B (pad x) (pad S) l = isGo B x S l
  | [], S, hS, _ => by
    unfold checkL isGo
    rw [Bool.eq_iff_iff, beq_iff_eq, beq_iff_eq]
    exact ⟨fun h => pad_inj hS hx h, fun h => by rw [h]⟩
  | s :: l, S, hS, h0 => by
    unfold checkL isGo
    by_cases hc : B.contains s = true
    · have sl := h8 s (List.contains_iff_mem.1 hc)
      have Pl : (plusV 1 S s).length = n := by simp [plusV, hS, sl]
      rw [fitR_unpad2 (by omega), ← pad_plus hS sl, fitR_unpad2 (by omega)]
      by_cases hf : fitR s x = true
      · by_cases hg : fitR (plusV 1 S s) x = true
        · rw [hc, hf, hg]
          show checkL B (pad x) (pad (plusV 1 S s)) l = isGo B x (plusV 1 S s) l
          exact check_is hx h8 l Pl hg
        · have hg' : fitR (plusV 1 S s) x = false := by simpa using hg
          rw [hc, hf, hg']
          show false = isGo B x (plusV 1 S s) l
          refine (isGo_no hx h8 l Pl ?_).symm
          by_cases hex : ∃ j, (0 ≤ x.getD j 0 ∧ x.getD j 0 < (plusV 1 S s).getD j 0) ∨ (x.getD j 0 ≤ 0 ∧ (plusV 1 S s).getD j 0 < x.getD j 0)
          · exact hex
          · exfalso
            apply hg
            rw [fitR_iff (by omega)]
            intro k
            by_cases h1 : (0 ≤ x.getD k 0 ∧ x.getD k 0 < (plusV 1 S s).getD k 0) ∨ (x.getD k 0 ≤ 0 ∧ (plusV 1 S s).getD k 0 < x.getD k 0)
            · exact absurd ⟨k, h1⟩ hex
            · have g : (plusV 1 S s).getD k 0 = S.getD k 0 + s.getD k 0 := by
                unfold plusV
                rw [List.getD_eq_getElem?_getD, List.getD_eq_getElem?_getD, List.getD_eq_getElem?_getD]
                by_cases hjn : k < n
                · rw [List.getElem?_eq_getElem (by simp; omega), List.getElem?_eq_getElem (by omega), List.getElem?_eq_getElem (by omega), List.getElem_zipWith]; simp
                · rw [List.getElem?_eq_none (by simp; omega), List.getElem?_eq_none (by omega), List.getElem?_eq_none (by omega)]; simp
              have k1 := (fitR_iff (by omega)).1 h0 k
              have k2 := (fitR_iff (by omega)).1 hf k
              rw [g] at h1 ⊢
              omega
      · rw [hc, if_neg (by simp [hf]), if_neg (by simp [hf])]
    · have hc' : B.contains s = false := by simpa using hc
      rw [hc']; rfl
end Go.Abs.Sp
