/- Stable sorting,plain: exchanges,rotations and merges,told by where each element comes from. -/
import Derived.Test.YtlonaefihjdkpaaTLP
namespace Go.Abs.Srt
variable {α : Type} {d : α}
structure Moved (d : α) (a b : Nat) (xs ys : List α) : Prop where
  perm : ys.Perm xs
  out : ∀ t,t < a ∨ b ≤ t → ys.getD t d = xs.getD t d
  ins : ∀ t,a ≤ t → t < b → ∃ s,a ≤ s ∧ s < b ∧ ys.getD t d = xs.getD s d
theorem Moved.len {a b : Nat} {xs ys : List α} (h : Moved d a b xs ys) : ys.length = xs.length := h.perm.length_eq
theorem Moved.refl {a b : Nat} {xs : List α} : Moved d a b xs xs := ⟨.refl _,fun _ _ => rfl,fun t h1 h2 => ⟨t,h1,h2,rfl⟩⟩
theorem Moved.trans {a b : Nat} {xs ys zs : List α} (h : Moved d a b xs ys) (k : Moved d a b ys zs) : Moved d a b xs zs :=
  ⟨k.perm.trans h.perm,fun t ht => (k.out t ht).trans (h.out t ht),fun t h1 h2 => by
    obtain ⟨s,s1,s2,s3⟩ := k.ins t h1 h2
    obtain ⟨r,r1,r2,r3⟩ := h.ins s s1 s2
    exact ⟨r,r1,r2,s3.trans r3⟩⟩
theorem Moved.mono {a b a' b' : Nat} {xs ys : List α} (h : Moved d a b xs ys) (ha : a' ≤ a) (hb : b ≤ b') : Moved d a' b' xs ys :=
  ⟨h.perm,fun t ht => h.out t (by omega),fun t h1 h2 => by
    by_cases hin : a ≤ t ∧ t < b
    · obtain ⟨s,s1,s2,s3⟩ := h.ins t hin.1 hin.2
      exact ⟨s,by omega,by omega,s3⟩
    · exact ⟨t,h1,h2,h.out t (by omega)⟩⟩
def swp (d : α) (i j : Nat) (xs : List α) : List α := (xs.set i (xs.getD j d)).set j (xs.getD i d)
theorem swp_get {i j : Nat} {xs : List α} (hi : i < xs.length) (hj : j < xs.length) (t : Nat) : (swp d i j xs).getD t d = xs.getD (if t = i then j else if t = j then i else t) d := by
  unfold swp
  simp only [List.getD_eq_getElem?_getD,List.getElem?_set,List.length_set]
  by_cases h1 : t = j
  · subst h1
    by_cases h2 : t = i
    · subst h2; simp [hi]
    · simp [h2,hj]
  · rw [if_neg (Ne.symm h1)]
    by_cases h2 : t = i
    · subst h2; simp [hi,hj]
    · simp [h2,Ne.symm h2,h1]
theorem swp_perm {i j : Nat} {xs : List α} (hi : i < xs.length) (hj : j < xs.length) : (swp d i j xs).Perm xs := by
  unfold swp
  rw [List.getD_eq_getElem?_getD,List.getD_eq_getElem?_getD,List.getElem?_eq_getElem hi,List.getElem?_eq_getElem hj]
  exact List.set_set_perm hi hj
theorem swp_moved {a b i j : Nat} {xs : List α} (hi : i < xs.length) (hj : j < xs.length) (h1 : a ≤ i) (h2 : i < b) (h3 : a ≤ j) (h4 : j < b) : Moved d a b xs (swp d i j xs) :=
  ⟨swp_perm hi hj,fun t ht => by rw [swp_get hi hj,if_neg (by omega),if_neg (by omega)],fun t t1 t2 => ⟨_,by split <;> (try split) <;> omega,by split <;> (try split) <;> omega,swp_get hi hj t⟩⟩
def swpI (a b n t : Nat) : Nat := if a ≤ t ∧ t < a + n then t + b - a else if b ≤ t ∧ t < b + n then t + a - b else t
def rotI (a m b t : Nat) : Nat := if a ≤ t ∧ t < a + (b - m) then t + (m - a) else if a + (b - m) ≤ t ∧ t < b then t - (b - m) else t
theorem swpI_zero (a b t : Nat) : swpI a b 0 t = t := by unfold swpI; split <;> (try split) <;> omega
theorem swpI_succ {a b k t : Nat} (h : a + k < b) : swpI a b k (if t = a + k then b + k else if t = b + k then a + k else t) = swpI a b (k + 1) t := by
  unfold swpI
  split <;> split <;> (try split) <;> (try split) <;> (try split) <;> (try split) <;> omega
theorem rot_gt {a m b i j t : Nat} (hj : j < i) (h0 : a + i = m) (hb : b = m + j) (hj0 : 0 < j) : swpI (m - i) m j (rotI (m - i + j) m (m + j) t) = rotI (m - i) m (m + j) t := by
  unfold swpI rotI
  split <;> (try split) <;> (try split) <;> (try split) <;> (try split) <;> (try split) <;> (try split) <;> omega
theorem rot_lt {m i j t : Nat} (hj : i < j) (hm : i ≤ m) : swpI (m - i) (m + j - i) i (rotI (m - i) m (m + (j - i)) t) = rotI (m - i) m (m + j) t := by
  unfold swpI rotI
  split <;> (try split) <;> (try split) <;> (try split) <;> (try split) <;> (try split) <;> (try split) <;> omega
theorem rot_eq {m i t : Nat} (hm : i ≤ m) : swpI (m - i) m i t = rotI (m - i) m (m + i) t := by
  unfold swpI rotI
  split <;> (try split) <;> (try split) <;> (try split) <;> (try split) <;> omega
def Asc (d : α) (key : α → Int) (a b : Nat) (xs : List α) : Prop := ∀ s t,a ≤ s → s ≤ t → t < b → key (xs.getD s d) ≤ key (xs.getD t d)
theorem Asc.one {key : α → Int} {a b : Nat} {xs : List α} (h : b ≤ a + 1) : Asc d key a b xs := fun s t h1 h2 h3 => by
  obtain rfl : s = t := by omega
  exact Int.le_refl _
theorem Asc.sub {key : α → Int} {a b a' b' : Nat} {xs : List α} (h : Asc d key a b xs) (ha : a ≤ a') (hb : b' ≤ b) : Asc d key a' b' xs := fun s t h1 h2 h3 => h s t (by omega) h2 (by omega)
theorem Asc.out {key : α → Int} {a b a' b' : Nat} {xs ys : List α} (h : Asc d key a b xs) (hm : Moved d a' b' xs ys) (hd : b ≤ a' ∨ b' ≤ a) : Asc d key a b ys := fun s t h1 h2 h3 => by
  rw [hm.out s (by omega),hm.out t (by omega)]; exact h s t h1 h2 h3
theorem Asc.join {key : α → Int} {a m b : Nat} {xs : List α} (h1 : Asc d key a m xs) (h2 : Asc d key m b xs) (h : ∀ s t,a ≤ s → s < m → m ≤ t → t < b → key (xs.getD s d) ≤ key (xs.getD t d)) : Asc d key a b xs := fun s t k1 k2 k3 => by
  by_cases hs : s < m
  · by_cases ht : t < m
    · exact h1 s t k1 k2 ht
    · exact h s t k1 hs (by omega) k3
  · exact h2 s t (by omega) k2 k3
section
variable {key : α → Int} {a m b : Nat} {xs ys : List α}
theorem rotI_up {a k t : Nat} (h : a ≤ k) : rotI a (a + 1) (k + 1) (if t = k then k + 1 else if t = k + 1 then k else t) = rotI a (a + 1) (k + 2) t := by
  unfold rotI
  split <;> split <;> (try split) <;> (try split) <;> (try split) <;> (try split) <;> omega
theorem rotI_down {k m t : Nat} (h0 : 0 < k) (h : k ≤ m) : rotI k m (m + 1) (if t = k then k - 1 else if t = k - 1 then k else t) = rotI (k - 1) m (m + 1) t := by
  unfold rotI
  split <;> split <;> (try split) <;> (try split) <;> (try split) <;> (try split) <;> omega
theorem rotI_id1 {a t : Nat} : rotI a (a + 1) (a + 1) t = t := by unfold rotI; split <;> (try split) <;> omega
theorem rotI_id2 {m t : Nat} : rotI m m (m + 1) t = t := by unfold rotI; split <;> (try split) <;> omega
theorem Asc.ins1 {i : Nat} (h : Asc d key (a + 1) b xs) (h1 : a + 1 ≤ i) (h2 : i ≤ b) (lo : ∀ c,a + 1 ≤ c → c < i → key (xs.getD c d) < key (xs.getD a d)) (hi : ∀ c,i ≤ c → c < b → key (xs.getD a d) ≤ key (xs.getD c d))
    (he : ∀ t,ys.getD t d = xs.getD (rotI a (a + 1) i t) d) : Asc d key a b ys := fun s t k1 k2 k3 => by
  rw [he s,he t]
  have e : ∀ t,a ≤ t → rotI a (a + 1) i t = if t + 1 < i then t + 1 else if t + 1 = i then a else t := fun t _ => by
    unfold rotI
    split <;> split <;> (try split) <;> (try split) <;> omega
  rw [e s k1,e t (by omega)]
  by_cases s1 : s + 1 < i
  · rw [if_pos s1]
    by_cases t1 : t + 1 < i
    · rw [if_pos t1]; exact h _ _ (by omega) (by omega) (by omega)
    · rw [if_neg t1]
      by_cases t2 : t + 1 = i
      · rw [if_pos t2]; exact Int.le_of_lt (lo _ (by omega) s1)
      · rw [if_neg t2]; exact h _ _ (by omega) (by omega) (by omega)
  · rw [if_neg s1,if_neg (show ¬ t + 1 < i by omega)]
    by_cases s2 : s + 1 = i
    · rw [if_pos s2]
      by_cases t2 : t + 1 = i
      · rw [if_pos t2]; exact Int.le_refl _
      · rw [if_neg t2]; exact hi _ (by omega) (by omega)
    · rw [if_neg s2,if_neg (show ¬ t + 1 = i by omega)]; exact h _ _ (by omega) (by omega) (by omega)
theorem Asc.ins2 {i : Nat} (h : Asc d key a m xs) (h1 : a ≤ i) (h2 : i ≤ m) (lo : ∀ c,a ≤ c → c < i → key (xs.getD c d) ≤ key (xs.getD m d)) (hi : ∀ c,i ≤ c → c < m → key (xs.getD m d) < key (xs.getD c d))
    (he : ∀ t,ys.getD t d = xs.getD (rotI i m (m + 1) t) d) : Asc d key a (m + 1) ys := fun s t k1 k2 k3 => by
  rw [he s,he t]
  have e : ∀ t,t < m + 1 → rotI i m (m + 1) t = if t < i then t else if t = i then m else t - 1 := fun t _ => by
    unfold rotI
    split <;> split <;> (try split) <;> (try split) <;> omega
  rw [e s (by omega),e t k3]
  by_cases s1 : s < i
  · rw [if_pos s1]
    by_cases t1 : t < i
    · rw [if_pos t1]; exact h _ _ k1 k2 (by omega)
    · rw [if_neg t1]
      by_cases t2 : t = i
      · rw [if_pos t2]; exact lo _ k1 s1
      · rw [if_neg t2]; exact h _ _ k1 (by omega) (by omega)
  · rw [if_neg s1,if_neg (show ¬ t < i by omega)]
    by_cases s2 : s = i
    · rw [if_pos s2]
      by_cases t2 : t = i
      · rw [if_pos t2]; exact Int.le_refl _
      · rw [if_neg t2]; exact Int.le_of_lt (hi _ (by omega) (by omega))
    · rw [if_neg s2,if_neg (show ¬ t = i by omega)]; exact h _ _ (by omega) (by omega) (by omega)
def s0 (a m b : Nat) : Nat := if (a + b) / 2 < m then (a + b) / 2 + m - b else a
def r0 (a m b : Nat) : Nat := if (a + b) / 2 < m then (a + b) / 2 else m
theorem s0_le (h1 : a < m) (h2 : m < b) : a ≤ s0 a m b ∧ s0 a m b ≤ r0 a m b ∧ r0 a m b ≤ m ∧ r0 a m b ≤ (a + b) / 2 ∧ (a + b) / 2 + m - b ≤ s0 a m b := by
  unfold s0 r0; split <;> omega
theorem search_mono (h1 : a < m) (h2 : m < b) (hl : Asc d key a m xs) (hr : Asc d key m b xs) {c e : Nat} (hc : s0 a m b ≤ c) (hce : c ≤ e) (he : e < r0 a m b) :
    key (xs.getD c d) ≤ key (xs.getD e d) ∧ key (xs.getD ((a + b) / 2 + m - 1 - e) d) ≤ key (xs.getD ((a + b) / 2 + m - 1 - c) d) := by
  obtain ⟨k1,k2,k3,k4,k5⟩ := s0_le h1 h2
  have k6 : m ≤ (a + b) / 2 + m - 1 - e := by omega
  have k7 : (a + b) / 2 + m - 1 - c < b := by omega
  exact ⟨hl _ _ (by omega) hce (by omega),hr _ _ k6 (by omega) k7⟩
theorem merge_parts (h1 : a < m) (h2 : m < b) (hl : Asc d key a m xs) (hr : Asc d key m b xs) {st en : Nat} (hs1 : s0 a m b ≤ st) (hs2 : st ≤ r0 a m b) (hen : en = (a + b) / 2 + m - st)
    (lo : ∀ c,s0 a m b ≤ c → c < st → key (xs.getD c d) ≤ key (xs.getD ((a + b) / 2 + m - 1 - c) d)) (hi : ∀ c,st ≤ c → c < r0 a m b → key (xs.getD ((a + b) / 2 + m - 1 - c) d) < key (xs.getD c d))
    (he : ∀ t,ys.getD t d = xs.getD (rotI st m en t) d) :
    a ≤ st ∧ st ≤ m ∧ st ≤ (a + b) / 2 ∧ m ≤ en ∧ (a + b) / 2 ≤ en ∧ en ≤ b ∧ Asc d key a st ys ∧ Asc d key st ((a + b) / 2) ys ∧ Asc d key ((a + b) / 2) en ys ∧ Asc d key en b ys ∧ ∀ s t,a ≤ s → s < (a + b) / 2 → (a + b) / 2 ≤ t → t < b → key (ys.getD s d) ≤ key (ys.getD t d) := by
  obtain ⟨k1,k2,k3,k4,k5⟩ := s0_le h1 h2
  obtain ⟨mid,hm⟩ : ∃ mid,mid = (a + b) / 2 := ⟨_,rfl⟩
  rw [← hm] at hen lo hi k4 k5 ⊢
  have j1 : a ≤ st := by omega
  have j2 : st ≤ m := by omega
  have j3 : st ≤ mid := by omega
  have j4 : m ≤ en := by omega
  have j5 : mid ≤ en := by omega
  have j6 : en ≤ b := by omega
  have r1 : ∀ t,t < st → rotI st m en t = t := fun t ht => by unfold rotI; split <;> (try split) <;> omega
  have r2 : ∀ t,st ≤ t → t < mid → rotI st m en t = t + (m - st) := fun t h1 h2 => by unfold rotI; split <;> (try split) <;> omega
  have r3 : ∀ t,mid ≤ t → t < en → rotI st m en t = t - (en - m) := fun t h1 h2 => by unfold rotI; split <;> (try split) <;> omega
  have r4 : ∀ t,en ≤ t → rotI st m en t = t := fun t h1 => by unfold rotI; split <;> (try split) <;> omega
  refine ⟨j1,j2,j3,j4,j5,j6,fun s t q1 q2 q3 => ?_,fun s t q1 q2 q3 => ?_,fun s t q1 q2 q3 => ?_,fun s t q1 q2 q3 => ?_,fun s t q1 q2 q3 q4 => ?_⟩
  · rw [he,he,r1 s (by omega),r1 t q3]; exact hl _ _ q1 q2 (by omega)
  · rw [he,he,r2 s q1 (by omega),r2 t (by omega) q3]; exact hr _ _ (by omega) (by omega) (by omega)
  · rw [he,he,r3 s q1 (by omega),r3 t (by omega) q3]; exact hl _ _ (by omega) (by omega) (by omega)
  · rw [he,he,r4 s q1,r4 t (by omega)]; exact hr _ _ (by omega) q2 q3
  · rw [he,he]
    -- what both searched ends say
    have c1 : a < st → en < b → key (xs.getD (st - 1) d) ≤ key (xs.getD en d) := fun g1 g2 => by
      have := lo (st - 1) (by unfold s0 at hs1 ⊢; split at hs1 <;> split <;> omega) (by omega)
      rwa [show mid + m - 1 - (st - 1) = en by omega] at this
    have c2 : st < m → m < en → key (xs.getD (en - 1) d) < key (xs.getD st d) := fun g1 g2 => by
      have := hi st (Nat.le_refl _) (by unfold r0 at hs2 ⊢; split at hs2 <;> split <;> omega)
      rwa [show mid + m - 1 - st = en - 1 by omega] at this
    by_cases s1 : s < st
    · rw [r1 s s1]
      by_cases t1 : t < en
      · rw [r3 t q3 t1]; exact hl _ _ q1 (by omega) (by omega)
      · rw [r4 t (by omega)]
        have e1 := hl s (st - 1) q1 (by omega) (by omega)
        have e2 := hr en t (by omega) (by omega) q4
        have e3 := c1 (by omega) (by omega)
        omega
    · rw [r2 s (by omega) q2]
      by_cases t1 : t < en
      · rw [r3 t q3 t1]
        have e1 := hr (s + (m - st)) (en - 1) (by omega) (by omega) (by omega)
        have e2 := hl st (t - (en - m)) (by omega) (by omega) (by omega)
        have e3 := c2 (by omega) (by omega)
        omega
      · rw [r4 t (by omega)]; exact hr _ _ (by omega) (by omega) q4
theorem merge_join {mid : Nat} {zs us : List α} (h1 : a ≤ mid) (h2 : mid ≤ b) (hc : ∀ s t,a ≤ s → s < mid → mid ≤ t → t < b → key (ys.getD s d) ≤ key (ys.getD t d)) (m1 : Moved d a mid ys zs) (a1 : Asc d key a mid zs) (m2 : Moved d mid b zs us) (a2 : Asc d key mid b us) : Asc d key a b us := by
  refine Asc.join (a1.out m2 (.inl (Nat.le_refl _))) a2 fun s t q1 q2 q3 q4 => ?_
  obtain ⟨t',t1,t2,t3⟩ := m2.ins t q3 q4
  obtain ⟨s',s1,s2,s3⟩ := m1.ins s q1 q2
  rw [m2.out s (.inl q2),s3,t3,m1.out t' (.inr t1)]
  exact hc _ _ s1 s2 t1 t2
end
end Go.Abs.Srt
