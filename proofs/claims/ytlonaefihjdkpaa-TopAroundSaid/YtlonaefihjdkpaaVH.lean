/- Going on without end along steps,plain: whoever is on a circle can. -/
import Derived.Test.YtlonaefihjdkpaaVD
import Derived.Test.YtlonaefihjdkpaaUQJ
namespace Go.Proofs.Ytlonaefihjdkpaa
open Go.Abs AVal
theorem two_sets' {p : Int → Int → Prop} (h : ∀ k : Nat,k < 64 → ∀ i : Nat,i < 64 → p k i) {m k : Int} (hm : Sp.isSet m) (hk : Sp.isSet k) : p m k := by
  have h1 := h m.toNat (by have := hm.1; have := hm.2; omega) k.toNat (by have := hk.1; have := hk.2; omega)
  rwa [Int.toNat_of_nonneg hm.1,Int.toNat_of_nonneg hk.1] at h1
set_option maxRecDepth 100000 in
theorem both_dec : ∀ k : Nat,k < 64 → ∀ i : Nat,i < 64 → (0 ≤ and2 k i ∧ and2 k i < 64) ∧ ∀ j : Nat,j < 6 → Sp.has (and2 k i) j = (Sp.has k j && Sp.has i j) := by decide +kernel
theorem both_set {m k : Int} (hm : Sp.isSet m) (hk : Sp.isSet k) : Sp.isSet (and2 m k) :=
  (two_sets' (p := fun m k => (0 ≤ and2 m k ∧ and2 m k < 64) ∧ ∀ j : Nat,j < 6 → Sp.has (and2 m k) j = (Sp.has m j && Sp.has k j)) both_dec hm hk).1
theorem has_both {m k : Int} (hm : Sp.isSet m) (hk : Sp.isSet k) {j : Nat} (hj : j < 6) : Sp.has (and2 m k) j = (Sp.has m j && Sp.has k j) :=
  (two_sets' (p := fun m k => (0 ≤ and2 m k ∧ and2 m k < 64) ∧ ∀ j : Nat,j < 6 → Sp.has (and2 m k) j = (Sp.has m j && Sp.has k j)) both_dec hm hk).2 j hj
theorem where_set' (p : Nat → Bool) : ∀ n,n ≤ 6 → Sp.isSet (whereP p n) ∧ ∀ j : Nat,j < 6 → Sp.has (whereP p n) j = (decide (j < n) && p j)
  | 0,_ => ⟨Sp.set0,fun j hj => by rw [whereP,Sp.has0 j hj]; simp⟩
  | n + 1,h => by
    obtain ⟨h1,h2⟩ := where_set' p n (by omega)
    rw [whereP]
    split
    · rename_i hp
      refine ⟨Sp.or_set h1 (by omega),fun j hj => ?_⟩
      rw [Sp.has_or h1 (by omega) hj,h2 j hj]
      by_cases hjn : j = n
      · subst hjn; simp [hp]
      · rw [decide_eq_false hjn,Bool.or_false]
        congr 1
        exact decide_eq_decide.2 (by omega)
    · rename_i hp
      refine ⟨h1,fun j hj => ?_⟩
      rw [h2 j hj]
      by_cases hjn : j = n
      · subst hjn
        have hp' : p j = false := by simpa using hp
        simp [hp']
      · congr 1
        exact decide_eq_decide.2 (by omega)
theorem always_keep {N : List Int} (n6 : N.length ≤ 6) (hN : ∀ i : Nat,i < N.length → Sp.isSet (N.getD i 0)) {C : Nat → Prop} (hC : ∀ i,C i → i < N.length ∧ ∃ j,C j ∧ Sp.has (N.getD i 0) j = true) :
    ∀ (k : Nat) (s : Int),Sp.isSet s → (∀ i,C i → Sp.has s i = true) → Sp.isSet (alwaysK N k s) ∧ ∀ i,C i → Sp.has (alwaysK N k s) i = true
  | 0,s,hs,h => ⟨hs,h⟩
  | k + 1,s,hs,h => by
    obtain ⟨w1,w2⟩ := where_set' (into N s) N.length n6
    refine always_keep n6 hN hC k _ (both_set hs w1) fun i hi => ?_
    obtain ⟨hil,j,hj,hij⟩ := hC i hi
    have hjl := (hC j hj).1
    rw [has_both hs w1 (by omega),h i hi,w2 i (by omega),decide_eq_true hil]
    unfold into
    have hne : and2 (N.getD i 0) s ≠ 0 := fun h0 => by
      have h1 := has_both (hN i hil) hs (j := j) (by omega)
      rw [h0,Sp.has0 j (by omega),hij,h j hj] at h1
      cases h1
    simpa using hne
def fullN (n : Nat) : Int := IntKind.i64.wrap (Sp.shl1 n - 1)
theorem around_mem {g : List Int} (h : netV g = true) {c : List Int} (hc : c ∈ circs g) {x : Int} (hx : x ∈ c) : 0 ≤ x ∧ x < g.length ∧ Sp.bitAt (alwaysK g g.length (fullN g.length)) x = 1 := by
  obtain ⟨n1,n6⟩ := netV_len h
  have hcir := circs_mem.1 hc
  have hN : ∀ i : Nat,i < g.length → Sp.isSet (g.getD i 0) := fun i hi => (netV_at h hi).2.2.2
  obtain ⟨f1,f2⟩ := Sp.full_dec g.length (by omega)
  have key : (∀ y ∈ c,0 ≤ y ∧ y < g.length) ∧ ∀ i : Nat,(i : Int) ∈ c → i < g.length ∧ ∃ j : Nat,(j : Int) ∈ c ∧ Sp.has (g.getD i 0) j = true := by
    rcases hcir with ⟨a,b,h1,h2,h3,h4,rfl⟩ | ⟨a,b,e,h1,h2,h3,h4,h5,h6,h7,h8,rfl⟩
    · refine ⟨fun y hy => ?_,fun i hi => ?_⟩
      · simp only [List.mem_cons,List.not_mem_nil,or_false] at hy
        omega
      · simp only [List.mem_cons,List.not_mem_nil,or_false] at hi
        rcases hi with hi | hi
        · obtain rfl : i = a := by omega
          exact ⟨by omega,b,by simp,h3⟩
        · obtain rfl : i = b := by omega
          exact ⟨by omega,a,by simp,h4⟩
    · refine ⟨fun y hy => ?_,fun i hi => ?_⟩
      · simp only [List.mem_cons,List.not_mem_nil,or_false] at hy
        omega
      · simp only [List.mem_cons,List.not_mem_nil,or_false] at hi
        rcases hi with hi | hi | hi
        · obtain rfl : i = a := by omega
          exact ⟨by omega,b,by simp,h6⟩
        · obtain rfl : i = b := by omega
          exact ⟨by omega,e,by simp,h7⟩
        · obtain rfl : i = e := by omega
          exact ⟨by omega,a,by simp,h8⟩
  obtain ⟨k1,k2⟩ := key
  have hk := always_keep n6 hN (C := fun i => (i : Int) ∈ c) k2 g.length (fullN g.length) f1 fun i hi => by
    have := (k2 i hi).1
    show Sp.has (IntKind.i64.wrap (Sp.shl1 g.length - 1)) i = true
    rw [f2 i (by omega),decide_eq_true this]
  obtain ⟨x0,x1⟩ := k1 x hx
  refine ⟨x0,x1,?_⟩
  have := hk.2 x.toNat (by show ((x.toNat : Nat) : Int) ∈ c; rw [Int.toNat_of_nonneg x0]; exact hx)
  unfold Sp.has at this
  rw [Int.toNat_of_nonneg x0,beq_iff_eq] at this
  exact this
theorem swaps_nil {g : List Int} (h : circs g = []) : (swapsA (circs g)).1 = [] := by rw [h]; rfl
theorem around_none {g : List Int} (h : netV g = true) (h0 : alwaysK g g.length (fullN g.length) = 0) : circs g = [] := by
  cases hc : circs g with
  | nil => rfl
  | cons c r =>
    exfalso
    have hm : c ∈ circs g := by rw [hc]; simp
    have hl := (circs_mem.1 hm).len
    obtain ⟨x,hx⟩ : ∃ x,x ∈ c := by
      cases c with
      | nil => simp at hl
      | cons x r => exact ⟨x,by simp⟩
    obtain ⟨x0,x1,x2⟩ := around_mem h hm hx
    have h6 := (netV_len h).2
    have h2 := Sp.has0 x.toNat (by omega)
    rw [h0] at x2
    unfold Sp.has at h2
    rw [Int.toNat_of_nonneg x0,x2] at h2
    cases h2
theorem take_net {g : List Int} (h : netV g = false) : netV (g.take 9) = false := by
  by_cases h9 : g.length ≤ 9
  · rw [List.take_of_length_le h9]; exact h
  · unfold netV
    rw [decide_eq_false (by simp; omega : ¬ (g.take 9).length ≤ 6)]
    simp
end Go.Proofs.Ytlonaefihjdkpaa
