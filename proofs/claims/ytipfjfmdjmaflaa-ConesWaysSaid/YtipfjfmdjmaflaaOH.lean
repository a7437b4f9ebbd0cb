/- Plain: tables of keys. -/
import Derived.Test.YtipfjfmdjmaflaaKL
namespace Go.Proofs.Ytipfjfmdjmaflaa
open Go.Abs AVal
set_option linter.unusedSimpArgs false
theorem and_low {p : Nat} (hp : p ≤ 40) (x : Int) : bitsI .and .i64 x ((2 ^ p : Nat) - 1 : Int) = (((BitVec.ofInt 64 x).toNat % 2 ^ p : Nat) : Int) := by
  have h2 : 2 ^ p ≤ 2 ^ 40 := Nat.pow_le_pow_right (by decide) hp
  have h1 : 1 ≤ 2 ^ p := Nat.one_le_two_pow
  have e : (BitVec.ofInt 64 ((2 ^ p : Nat) - 1 : Int)).toNat = 2 ^ p - 1 := by
    rw [show ((2 ^ p : Nat) - 1 : Int) = ((2 ^ p - 1 : Nat) : Int) by omega,BitVec.ofInt_natCast,BitVec.toNat_ofNat]
    exact Nat.mod_eq_of_lt (by omega)
  show IntKind.i64.wrap ((((BitVec.ofInt 64 x : BitVec 64) &&& (BitVec.ofInt 64 ((2 ^ p : Nat) - 1 : Int) : BitVec 64)).toNat : Nat) : Int) = _
  rw [BitVec.toNat_and,e,Nat.and_two_pow_sub_one_eq_mod]
  have := Nat.mod_lt (BitVec.ofInt 64 x).toNat (show 2 ^ p > 0 by omega)
  exact wrap64 (by omega) (by omega)
def hm (k : Int) (p : Nat) : Nat := (BitVec.ofInt 64 ((IntKind.i64.wrap (k * 2654435761)).fdiv (2 ^ min (Int.toNat 9) 64))).toNat % 2 ^ p
structure Tab (ks : List Int) (p : Nat) : Prop where
  len : ks.length = 2 ^ p
  path : ∀ q,q < 2 ^ p → ks.getD q 0 ≠ 0 → ∃ t,t < 2 ^ p ∧ q = (hm (ks.getD q 0) p + t) % 2 ^ p ∧ ∀ s,s < t → ks.getD ((hm (ks.getD q 0) p + s) % 2 ^ p) 0 ≠ 0
def cnt (ks : List Int) : Nat := ks.countP fun z => z != 0
theorem cnt_zeros (n : Nat) : cnt (List.replicate n 0) = 0 := by
  unfold cnt; rw [List.countP_eq_zero]; intro z hz; obtain ⟨-,rfl⟩ := List.mem_replicate.1 hz; decide
theorem tab_zeros (p : Nat) : Tab (List.replicate (2 ^ p) 0) p :=
  ⟨by simp,fun q hq h => absurd (by rw [List.getD_eq_getElem?_getD,List.getElem?_replicate,if_pos hq]; rfl) h⟩
theorem set_getD {ks : List Int} {q j : Nat} {k : Int} (hq : q < ks.length) : (ks.set q k).getD j 0 = if q = j then k else ks.getD j 0 := by
  rw [List.getD_eq_getElem?_getD,List.getElem?_set]
  split
  · rfl
  · rw [List.getD_eq_getElem?_getD]
theorem cnt_set {ks : List Int} {q : Nat} {k : Int} (hq : q < ks.length) (h0 : ks.getD q 0 = 0) (hk : k ≠ 0) : cnt (ks.set q k) = cnt ks + 1 := by
  unfold cnt
  rw [List.countP_set hq]
  rw [List.getD_eq_getElem?_getD,List.getElem?_eq_getElem hq,Option.getD_some] at h0
  rw [h0]
  simp [hk]
theorem mem_set0 {ks : List Int} {q : Nat} {k z : Int} (hq : q < ks.length) (h0 : ks.getD q 0 = 0) (hz : z ≠ 0) : z ∈ ks.set q k ↔ z ∈ ks ∨ z = k := by
  constructor
  · intro h
    exact (List.mem_or_eq_of_mem_set h)
  · rintro (h | rfl)
    · obtain ⟨j,hj,rfl⟩ := List.getElem_of_mem h
      have hne : q ≠ j := by
        rintro rfl
        rw [List.getD_eq_getElem?_getD,List.getElem?_eq_getElem hq,Option.getD_some] at h0
        exact hz h0
      exact List.mem_of_getElem? (i := j) (by rw [List.getElem?_set_ne hne]; exact List.getElem?_eq_getElem hj)
    · exact List.mem_of_getElem? (i := q) (by rw [List.getElem?_set_self hq])
section
variable {ks : List Int} {p : Nat} {k : Int}
theorem Tab.put (h : Tab ks p) (hk : k ≠ 0) {t : Nat} (ht : t < 2 ^ p) (h0 : ks.getD ((hm k p + t) % 2 ^ p) 0 = 0) (hs : ∀ s,s < t → ks.getD ((hm k p + s) % 2 ^ p) 0 ≠ 0) : Tab (ks.set ((hm k p + t) % 2 ^ p) k) p := by
  have hq : (hm k p + t) % 2 ^ p < ks.length := by rw [h.len]; exact Nat.mod_lt _ (by omega)
  refine ⟨by rw [List.length_set]; exact h.len,fun q hq' hne => ?_⟩
  have mono : ∀ j,ks.getD j 0 ≠ 0 → (ks.set ((hm k p + t) % 2 ^ p) k).getD j 0 ≠ 0 := fun j hj => by
    rw [set_getD hq]; split
    · exact hk
    · exact hj
  rw [set_getD hq] at hne ⊢
  by_cases e : (hm k p + t) % 2 ^ p = q
  · rw [if_pos e]
    exact ⟨t,ht,e.symm,fun s hst => mono _ (hs s hst)⟩
  · rw [if_neg e] at hne ⊢
    obtain ⟨t',h1,h2,h3⟩ := h.path q hq' hne
    exact ⟨t',h1,h2,fun s hst => mono _ (h3 s hst)⟩
theorem Tab.none (h : Tab ks p) (hk : k ≠ 0) {t : Nat} (h0 : ks.getD ((hm k p + t) % 2 ^ p) 0 = 0) (hs : ∀ s,s < t → ks.getD ((hm k p + s) % 2 ^ p) 0 ≠ k) : k ∉ ks := by
  intro hm'
  obtain ⟨q,hq,hqk⟩ := List.getElem_of_mem hm'
  have g : ks.getD q 0 = k := by rw [List.getD_eq_getElem?_getD,List.getElem?_eq_getElem hq]; exact hqk
  obtain ⟨t',h1,h2,h3⟩ := h.path q (by rw [← h.len]; exact hq) (by rw [g]; exact hk)
  rw [g] at h2 h3
  rcases Nat.lt_trichotomy t' t with hlt | rfl | hgt
  · exact hs t' hlt (by rw [← h2]; exact g)
  · rw [← h2,g] at h0; exact hk h0
  · exact h3 t hgt h0
theorem Tab.room (h : Tab ks p) (hc : cnt ks < 2 ^ p) (b : Nat) : ∃ t,t < 2 ^ p ∧ ks.getD ((b + t) % 2 ^ p) 0 = 0 := by
  have hex : ∃ q,q < 2 ^ p ∧ ks.getD q 0 = 0 := by
    apply Classical.byContradiction
    intro hn
    have : cnt ks = ks.length := by
      unfold cnt
      rw [List.countP_eq_length]
      intro z hz
      obtain ⟨q,hq,rfl⟩ := List.getElem_of_mem hz
      rw [bne_iff_ne]
      intro e
      exact hn ⟨q,by rw [← h.len]; exact hq,by rw [List.getD_eq_getElem?_getD,List.getElem?_eq_getElem hq]; exact e⟩
    rw [this,h.len] at hc; omega
  obtain ⟨q,hq,h0⟩ := hex
  have hp : 0 < 2 ^ p := by omega
  refine ⟨(q + (2 ^ p - b % 2 ^ p)) % 2 ^ p,Nat.mod_lt _ hp,?_⟩
  have e : (b + (q + (2 ^ p - b % 2 ^ p)) % 2 ^ p) % 2 ^ p = q := by
    have hb := Nat.mod_lt b hp
    rw [Nat.add_mod,Nat.mod_mod,← Nat.add_mod]
    have : b + (q + (2 ^ p - b % 2 ^ p)) = q + 2 ^ p * (b / 2 ^ p + 1) := by
      have := Nat.div_add_mod b (2 ^ p)
      rw [Nat.mul_add,Nat.mul_one]
      omega
    rw [this,Nat.add_mul_mod_self_left,Nat.mod_eq_of_lt hq]
  rw [e]; exact h0
theorem hm_lt (k : Int) (p : Nat) : hm k p < 2 ^ p := Nat.mod_lt _ Nat.one_le_two_pow
end
end Go.Proofs.Ytipfjfmdjmaflaa
