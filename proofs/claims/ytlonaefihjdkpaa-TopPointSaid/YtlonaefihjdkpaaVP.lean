/- Reaching back along steps,plain: who is reached,and who leaves in the first round. -/
import Derived.Test.YtlonaefihjdkpaaVD
import Derived.Test.YtlonaefihjdkpaaPV
namespace Go.Proofs.Ytlonaefihjdkpaa
open Go.Abs AVal
set_option maxRecDepth 100000 in
theorem un_dec : ∀ k : Nat,k < 64 → ∀ i : Nat,i < 64 → (0 ≤ Sp.orI k i ∧ Sp.orI k i < 64) ∧ ∀ j : Nat,j < 6 → Sp.has (Sp.orI k i) j = (Sp.has k j || Sp.has i j) := by decide +kernel
theorem two_sets {p : Int → Int → Prop} (h : ∀ k : Nat,k < 64 → ∀ i : Nat,i < 64 → p k i) {m k : Int} (hm : Sp.isSet m) (hk : Sp.isSet k) : p m k := by
  have h1 := h m.toNat (by have := hm.1; have := hm.2; omega) k.toNat (by have := hk.1; have := hk.2; omega)
  rwa [Int.toNat_of_nonneg hm.1,Int.toNat_of_nonneg hk.1] at h1
theorem un_set {m k : Int} (hm : Sp.isSet m) (hk : Sp.isSet k) : Sp.isSet (Sp.orI m k) :=
  (two_sets (p := fun m k => (0 ≤ Sp.orI m k ∧ Sp.orI m k < 64) ∧ ∀ j : Nat,j < 6 → Sp.has (Sp.orI m k) j = (Sp.has m j || Sp.has k j)) un_dec hm hk).1
theorem has_un {m k : Int} (hm : Sp.isSet m) (hk : Sp.isSet k) {j : Nat} (hj : j < 6) : Sp.has (Sp.orI m k) j = (Sp.has m j || Sp.has k j) :=
  (two_sets (p := fun m k => (0 ≤ Sp.orI m k ∧ Sp.orI m k < 64) ∧ ∀ j : Nat,j < 6 → Sp.has (Sp.orI m k) j = (Sp.has m j || Sp.has k j)) un_dec hm hk).2 j hj
set_option maxRecDepth 100000 in
theorem in_dec : ∀ k : Nat,k < 64 → ∀ i : Nat,i < 6 → (and2 (Sp.shl1 i) k != 0) = Sp.has k i := by decide +kernel
theorem in_has {m : Int} (hm : Sp.isSet m) {i : Nat} (hi : i < 6) : (and2 (Sp.shl1 i) m != 0) = Sp.has m i :=
  Sp.allSets (p := fun m => ∀ i : Nat,i < 6 → (and2 (Sp.shl1 i) m != 0) = Sp.has m i) in_dec hm i hi
theorem where_set (p : Nat → Bool) : ∀ n,n ≤ 6 → Sp.isSet (whereP p n) ∧ ∀ j : Nat,j < 6 → Sp.has (whereP p n) j = (decide (j < n) && p j)
  | 0,_ => ⟨Sp.set0,fun j hj => by rw [whereP,Sp.has0 j hj]; simp⟩
  | n + 1,h => by
    obtain ⟨h1,h2⟩ := where_set p n (by omega)
    rw [whereP]
    split
    · rename_i hp
      refine ⟨Sp.or_set h1 (by omega),fun j hj => ?_⟩
      rw [Sp.has_or h1 (by omega) hj,h2 j hj]
      by_cases hjn : j = n
      · subst hjn; simp [hp]
      · rw [decide_eq_false hjn,Bool.or_false]
        congr 1
        exact decide_eq_decide.2 (by omega)
    · rename_i hp
      refine ⟨h1,fun j hj => ?_⟩
      rw [h2 j hj]
      by_cases hjn : j = n
      · subst hjn
        have hp' : p j = false := by simpa using hp
        simp [hp']
      · congr 1
        exact decide_eq_decide.2 (by omega)
theorem reach_iff {N : List Int} {f : Nat → Int} (n6 : N.length ≤ 6) (hf : ∀ j : Nat,j < N.length → 0 ≤ f j ∧ f j < N.length ∧ N.getD j 0 = Sp.shl1 (f j)) : ∀ (k : Nat) (s : Int),Sp.isSet s →
    Sp.isSet (reachK N k s) ∧ ∀ j : Nat,j < N.length → (Sp.has (reachK N k s) j = true ↔ ∃ m,m ≤ k ∧ Sp.has s (Sp.itI f m j).toNat = true)
  | 0,s,hs => ⟨hs,fun j hj => ⟨fun h => ⟨0,Nat.le_refl _,by simpa [Sp.itI,reachK] using h⟩,fun ⟨m,hm,h⟩ => by
      obtain rfl : m = 0 := by omega
      simpa [Sp.itI,reachK] using h⟩⟩
  | k + 1,s,hs => by
    obtain ⟨w1,w2⟩ := where_set (into N s) N.length n6
    obtain ⟨h1,h2⟩ := reach_iff n6 hf k _ (un_set hs w1)
    have hin : ∀ (m j : Nat),j < N.length → 0 ≤ Sp.itI f m j ∧ Sp.itI f m j < N.length := by
      intro m
      induction m with
      | zero => intro j hj; exact ⟨by simp [Sp.itI],by simpa [Sp.itI] using hj⟩
      | succ m ih =>
        intro j hj
        obtain ⟨a1,a2,-⟩ := hf j hj
        have := ih (f j).toNat (by omega)
        rw [Int.toNat_of_nonneg a1] at this
        exact this
    have hx : ∀ x : Nat,x < N.length → Sp.has (Sp.orI s (whereP (into N s) N.length)) x = (Sp.has s x || Sp.has s (f x).toNat) := by
      intro x hx
      obtain ⟨a1,a2,a3⟩ := hf x hx
      rw [has_un hs w1 (by omega),w2 x (by omega),decide_eq_true hx,Bool.true_and]
      unfold into
      rw [a3]
      have := in_has hs (i := (f x).toNat) (by omega)
      rw [Int.toNat_of_nonneg a1] at this
      rw [this]
    refine ⟨h1,fun j hj => ?_⟩
    rw [reachK,h2 j hj]
    constructor
    · rintro ⟨m,hm,h⟩
      have hb := hin m j hj
      rw [hx _ (by omega),Bool.or_eq_true] at h
      rcases h with h | h
      · exact ⟨m,by omega,h⟩
      · refine ⟨m + 1,by omega,?_⟩
        rw [Sp.itI_succ]; exact h
    · rintro ⟨m,hm,h⟩
      by_cases hmk : m ≤ k
      · have hb := hin m j hj
        exact ⟨m,hmk,by rw [hx _ (by omega),h]; rfl⟩
      · obtain rfl : m = k + 1 := by omega
        have hb := hin k j hj
        rw [Sp.itI_succ] at h
        exact ⟨k,Nat.le_refl _,by rw [hx _ (by omega),h,Bool.or_true]⟩
def nextL (w : List (List Int)) : List Int := w.map fun l => Sp.shl1 (l.getD 0 0)
theorem alive0 (n : Nat) (c : Int) : Sp.alive (List.replicate n 0) c = true := by
  unfold Sp.alive
  rw [List.getD_eq_getElem?_getD,List.getElem?_replicate]
  split <;> rfl
theorem best0 {w : List (List Int)} (i : Nat) : Sp.best w (Sp.st w 0).2 i = (w.getD i []).getD 0 0 := by
  unfold Sp.best
  show (w.getD i []).getD (Sp.idx (Sp.alive (List.replicate w.length 0)) (w.getD i [])).toNat 0 = _
  have : Sp.alive (List.replicate w.length 0) = fun _ => true := funext fun c => alive0 _ c
  rw [this]
  cases h : w.getD i [] with
  | nil => rfl
  | cons x r => simp [Sp.idx]
theorem chase_some (f : Nat → Int) (i : Int) : ∀ (k : Nat) (a : Int),∃ m,m ≤ k ∧ Sp.chase f i k a = Sp.itI f m a
  | 0,a => ⟨0,Nat.le_refl _,rfl⟩
  | k + 1,a => by
    unfold Sp.chase
    split
    · exact ⟨0,Nat.zero_le _,rfl⟩
    · obtain ⟨m,hm,h⟩ := chase_some f i k (f a.toNat)
      exact ⟨m + 1,by omega,h⟩
theorem first_iff {w : List (List Int)} {i : Nat} (hi : i < w.length) : ∀ k : Nat,((Sp.st w (k + 1)).2.getD i 0 = 1 ↔ Sp.leaves w (Sp.st w 0).2 i = true)
  | 0 => by
    show (Sp.stepR w (Sp.st w 0).2 ((0 : Nat) + 1)).getD i 0 = 1 ↔ _
    unfold Sp.stepR
    rw [List.getD_eq_getElem?_getD,List.getElem?_map,List.getElem?_range hi]
    show (if Sp.leaves w (Sp.st w 0).2 i = true then _ else (List.replicate w.length (0 : Int)).getD i 0) = 1 ↔ _
    have h0 : (List.replicate w.length (0 : Int)).getD i 0 = 0 := by rw [List.getD_eq_getElem?_getD,List.getElem?_replicate]; split <;> rfl
    rw [h0]
    split
    · rename_i h; simp [h]
    · rename_i h; simp [h]
  | k + 1 => by
    have ih := first_iff hi k
    show (Sp.stepR w (Sp.st w (k + 1)).2 ((k + 1 : Nat) + 1)).getD i 0 = 1 ↔ _
    unfold Sp.stepR
    rw [List.getD_eq_getElem?_getD,List.getElem?_map,List.getElem?_range hi]
    show (if Sp.leaves w (Sp.st w (k + 1)).2 i = true then (((k + 1 : Nat) : Int) + 1) else (Sp.st w (k + 1)).2.getD i 0) = 1 ↔ _
    rw [← ih]
    split
    · rename_i h
      unfold Sp.leaves Sp.alive at h
      rw [Bool.and_eq_true,beq_iff_eq,Int.toNat_natCast] at h
      rw [h.1]
      constructor
      · intro hk; omega
      · intro hk; omega
    · rfl
theorem point_law {w : List (List Int)} (g : Sp.Good w) {i : Nat} (hi : i < w.length) : ((Sp.fin w).2.getD i 0 = 1) ↔ Sp.bitAt (reachK (nextL w) w.length (Sp.shl1 i)) ((w.getD i []).getD 0 0) = 1 := by
  have n1 := g.n1
  have n6 := g.n6
  have hN : (nextL w).length = w.length := by simp [nextL]
  have hp : ∀ j : Nat,j < w.length → 0 ≤ (w.getD j []).getD 0 0 ∧ (w.getD j []).getD 0 0 < w.length := fun j hj => by
    have hm : w.getD j [] ∈ w := Sp.getD_mem hj
    exact g.rng _ hm _ (Sp.getD_mem (by rw [g.len _ hm]; omega))
  have hf : ∀ j : Nat,j < (nextL w).length → 0 ≤ Sp.best w (Sp.st w 0).2 j ∧ Sp.best w (Sp.st w 0).2 j < (nextL w).length ∧ (nextL w).getD j 0 = Sp.shl1 (Sp.best w (Sp.st w 0).2 j) := fun j hj => by
    rw [hN] at hj
    rw [best0,hN]
    refine ⟨(hp j hj).1,(hp j hj).2,?_⟩
    unfold nextL
    have e1 : w.getD j [] = w[j] := by rw [List.getD_eq_getElem?_getD,List.getElem?_eq_getElem hj]; rfl
    rw [List.getD_eq_getElem?_getD,List.getElem?_map,List.getElem?_eq_getElem hj,e1]
    rfl
  have hs : Sp.isSet (Sp.shl1 i) ∧ ∀ j : Nat,j < 6 → Sp.has (Sp.shl1 i) j = decide (j = i) := by
    have := shl_dec i (by omega)
    exact this
  obtain ⟨r1,r2⟩ := reach_iff (by omega) hf w.length (Sp.shl1 i) hs.1
  obtain ⟨p0,p1⟩ := hp i hi
  have hfin : Sp.fin w = Sp.st w ((w.length - 1) + 1) := by unfold Sp.fin; congr 1; omega
  rw [hfin,first_iff hi (w.length - 1)]
  have hb := r2 ((w.getD i []).getD 0 0).toNat (by omega)
  unfold Sp.has at hb
  rw [Int.toNat_of_nonneg p0,beq_iff_eq] at hb
  rw [hb]
  unfold Sp.leaves
  have ha : Sp.alive (Sp.st w 0).2 (i : Int) = true := alive0 _ _
  rw [ha,Bool.true_and,beq_iff_eq,best0]
  have hin : ∀ (m : Nat) (a : Int),0 ≤ a → a < w.length → 0 ≤ Sp.itI (Sp.best w (Sp.st w 0).2) m a ∧ Sp.itI (Sp.best w (Sp.st w 0).2) m a < w.length := by
    intro m
    induction m with
    | zero => intro a h0 h1; exact ⟨h0,h1⟩
    | succ m ih =>
      intro a h0 h1
      have := hf a.toNat (by omega)
      exact ih _ this.1 (by omega)
  constructor
  · intro h
    obtain ⟨m,hm,e⟩ := chase_some (Sp.best w (Sp.st w 0).2) i w.length ((w.getD i []).getD 0 0)
    refine ⟨m,hm,?_⟩
    rw [e] at h
    rw [h,Int.toNat_natCast]
    have := hs.2 i (by omega)
    rw [decide_eq_true rfl] at this
    exact this
  · rintro ⟨m,hm,h⟩
    have hb := hin m _ p0 p1
    have h' : (Sp.has (Sp.shl1 i) (Sp.itI (Sp.best w (Sp.st w 0).2) m ((w.getD i []).getD 0 0)).toNat) = true := h
    rw [hs.2 _ (by omega),decide_eq_true_eq] at h'
    exact Sp.chase_hit _ _ _ m _ (by omega) hm
where
  shl_dec : ∀ i : Nat,i < 6 → Sp.isSet (Sp.shl1 i) ∧ ∀ j : Nat,j < 6 → Sp.has (Sp.shl1 i) j = decide (j = i) := by unfold Sp.isSet; decide +kernel
end Go.Proofs.Ytlonaefihjdkpaa
