/- Plain: families,the least price in one; Plain: the best of some vectors,by price and order. -/
import Derived.Test.YtlonaefihjdkpaaTM1
namespace Go.Abs.Sp
open Go.Abs.Cir Go.Proofs.Ytlonaefihjdkpaa
theorem posV_get {x : List Int} : posV x = true ↔ ∀ j,0 ≤ x.getD j 0 := by
  unfold posV
  rw [List.all_eq_true]
  constructor
  · intro h j
    rw [List.getD_eq_getElem?_getD]
    cases hj : x[j]? with
    | none => simp
    | some z => simpa using h z (List.mem_of_getElem? hj)
  · intro h z hz
    obtain ⟨j,hj,rfl⟩ := List.getElem_of_mem hz
    have := h j
    rw [List.getD_eq_getElem?_getD,List.getElem?_eq_getElem hj] at this
    simpa using this
structure Fam (rows : List (List Int)) (n : Nat) (X Y : List Int) : Prop where
  len : Y.length = 4
  pad : ∀ j,n ≤ j → Y.getD j 0 = 0
  pos : posV Y = true
  mv : moveB rows (plusV (-1) Y X) = true
section
variable {rows : List (List Int)} {n : Nat} {X Y Z : List Int}
theorem moveB_all : moveB rows X = true ↔ ∀ r ∈ rows,dp r X = 0 := by unfold moveB; simp
theorem Fam.self (hl : X.length = 4) (hp : ∀ j,n ≤ j → X.getD j 0 = 0) (h0 : posV X = true) : Fam rows n X X :=
  ⟨hl,hp,h0,moveB_all.2 fun r hr => by rw [dp_plus rfl]; omega⟩
theorem Fam.step (hX : X.length = 4) (h : Fam rows n X Y) {m : List Int} (hm : Mini rows n m) (hp : posV (plusV 1 Y m) = true) : Fam rows n X (plusV 1 Y m) :=
  ⟨plusV_len h.len hm.mv.len,fun j hj => by rw [plusV_get h.len hm.mv.len,h.pad j hj,hm.mv.pad j hj]; omega,hp,moveB_all.2 fun r hr => by
    have h1 := moveB_all.1 h.mv r hr
    have h2 := moveB_all.1 hm.mv.mv r hr
    rw [dp_plus (by rw [h.len,hX])] at h1
    rw [dp_plus (by rw [plusV_len h.len hm.mv.len,hX]),dp_plus (by rw [h.len,hm.mv.len]),h2]
    omega⟩
end
section
variable {a : List (List Int)} {X Y : List Int}
theorem split_ex (hm : mat a = true) {x : List Int} (hx : x.length = 4) (hp : ∀ j,(a.getD 0 []).length ≤ j → x.getD j 0 = 0) (h0 : moveB (a.map Sp.pad) x = true) : ∃ l,SplitOk (a.map Sp.pad) (a.getD 0 []).length x l := by
  have key : ∀ (k : Nat) (v : List Int) (l : List (List Int)),size v ≤ k → Part (a.map Sp.pad) (a.getD 0 []).length x v l → ∃ l,SplitOk (a.map Sp.pad) (a.getD 0 []).length x l := by
    intro k
    induction k with
    | zero =>
      intro v l hk h
      by_cases hv : v = z4
      · exact ⟨l,h.done hv⟩
      · have := size_pos h.len hv
        omega
    | succ k ih =>
      intro v l hk h
      by_cases hv : v = z4
      · exact ⟨l,h.done hv⟩
      · obtain ⟨y,hy,hf⟩ := Part.some hm (basB_is _ _) h hv
        have hM := (mem_bs hm (basB_is _ _)).1 hy
        obtain ⟨h1,h2⟩ := Part.step hx h hM hf
        exact ih _ _ (by omega) h1
  exact key (size x).toNat x [] (by have := size_nn x; omega) (Part.start hx hp h0)
theorem Fam.split (hm : mat a = true) (hX : X.length = 4) (hXp : ∀ j,(a.getD 0 []).length ≤ j → X.getD j 0 = 0) (h : Fam (a.map Sp.pad) (a.getD 0 []).length X Y) : ∃ l,SplitOk (a.map Sp.pad) (a.getD 0 []).length (plusV (-1) Y X) l :=
  split_ex hm (plusV_len h.len hX) (fun j hj => by rw [plusV_get h.len hX,h.pad j hj,hXp j hj]; omega) h.mv
theorem fam_ind (hm : mat a = true) (hX : X.length = 4) (hXp : ∀ j,(a.getD 0 []).length ≤ j → X.getD j 0 = 0) (hX0 : posV X = true) {P : List Int → Prop} (h0 : P X)
    (hs : ∀ Z m,Fam (a.map Sp.pad) (a.getD 0 []).length X Z → P Z → Mini (a.map Sp.pad) (a.getD 0 []).length m → posV (plusV 1 Z m) = true → P (plusV 1 Z m)) (h : Fam (a.map Sp.pad) (a.getD 0 []).length X Y) : P Y := by
  obtain ⟨l,hl⟩ := h.split hm hX hXp
  have hD : (plusV (-1) Y X).length = 4 := plusV_len h.len hX
  have Yp := posV_get.1 h.pos
  have key : ∀ (l : List (List Int)) (Z : List Int),Fam (a.map Sp.pad) (a.getD 0 []).length X Z → P Z → (∀ y ∈ l,Mini (a.map Sp.pad) (a.getD 0 []).length y ∧ fitR y (plusV (-1) Y X) = true) → (∀ j,Y.getD j 0 = Z.getD j 0 + sumC l j) → P Y := by
    intro l
    induction l with
    | nil =>
      intro Z hZ hP _ he
      have : Y = Z := ext4 h.len hZ.len fun j => by rw [he j]; simp [sumC]
      rw [this]; exact hP
    | cons b l ih =>
      intro Z hZ hP hb he
      obtain ⟨hb1,hb2⟩ := hb b (by simp)
      have hl' : ∀ y ∈ l,y.length = 4 ∧ fitR y (plusV (-1) Y X) = true := fun y hy => ⟨(hb y (by simp [hy])).1.mv.len,(hb y (by simp [hy])).2⟩
      have g := fun j => plusV_get (k := 1) hZ.len hb1.mv.len j
      have Zp := posV_get.1 hZ.pos
      have hf := (fitR_iff (by rw [hb1.mv.len,hD] : b.length = _)).1 hb2
      have hp : posV (plusV 1 Z b) = true := posV_get.2 fun j => by
        have h1 := sum_sign hD (j := j) hl'
        have h2 := hf j
        have h3 := he j
        have h4 := Yp j
        have h5 := Zp j
        rw [g j]
        simp only [sumC,List.foldr_cons] at h3 h1
        omega
      refine ih (plusV 1 Z b) (hZ.step hX hb1 hp) (hs Z b hZ hP hb1 hp) (fun y hy => hb y (by simp [hy])) fun j => ?_
      have h3 := he j
      rw [g j]
      simp only [sumC,List.foldr_cons] at h3 ⊢
      omega
  refine key l X (Fam.self hX hXp hX0) h0 hl.each fun j => ?_
  have := hl.sum j
  rw [plusV_get h.len hX] at this
  omega
theorem cut_count {D : List Int} (hD : D.length = 4) : ∀ {l : List (List Int)},(∀ b ∈ l,b.length = 4 ∧ fitR b D = true ∧ posV b = false) → (l.length : Int) ≤ (if D.getD 0 0 < 0 then -sumC l 0 else 0) + (if D.getD 1 0 < 0 then -sumC l 1 else 0) + (if D.getD 2 0 < 0 then -sumC l 2 else 0) + (if D.getD 3 0 < 0 then -sumC l 3 else 0)
  | [],_ => by simp [sumC]
  | b :: l,h => by
    have ih := cut_count hD (l := l) fun y hy => h y (by simp [hy])
    obtain ⟨h1,h2,h3⟩ := h b (by simp)
    have hf := (fitR_iff (by rw [h1,hD] : b.length = _)).1 h2
    have hn : ¬ ∀ j,0 ≤ b.getD j 0 := fun hc => by rw [posV_get.2 hc] at h3; cases h3
    have hj : b.getD 0 0 < 0 ∨ b.getD 1 0 < 0 ∨ b.getD 2 0 < 0 ∨ b.getD 3 0 < 0 := by
      refine Decidable.byContradiction fun hc => hn fun j => ?_
      rcases (show j = 0 ∨ j = 1 ∨ j = 2 ∨ j = 3 ∨ 4 ≤ j by omega) with rfl | rfl | rfl | rfl | hj
      · omega
      · omega
      · omega
      · omega
      · rw [List.getD_eq_getElem?_getD,List.getElem?_eq_none (by omega)]; simp
    have f0 := hf 0
    have f1 := hf 1
    have f2 := hf 2
    have f3 := hf 3
    simp only [sumC,List.foldr_cons,List.length_cons] at ih ⊢
    split at ih <;> split at ih <;> split at ih <;> split at ih <;> simp only [*,if_true,if_false] <;> omega
theorem fam_bound (hm : mat a = true) (hX : X.length = 4) (hXp : ∀ j,(a.getD 0 []).length ≤ j → X.getD j 0 = 0) (hX0 : posV X = true) {N : Int} (hN : 0 ≤ N) (hb : inB N X) (hnp : ∀ m,Mini (a.map Sp.pad) (a.getD 0 []).length m → posV m = false) (h : Fam (a.map Sp.pad) (a.getD 0 []).length X Y) : inB (65 * N) Y := by
  obtain ⟨l,hl⟩ := h.split hm hX hXp
  obtain ⟨r1,r2,-,n4⟩ := mat_cols hm rfl
  have hD : (plusV (-1) Y X).length = 4 := plusV_len h.len hX
  have Yp := posV_get.1 h.pos
  have hc := cut_count hD (l := l) fun b hb => ⟨(hl.each b hb).1.mv.len,(hl.each b hb).2,hnp b (hl.each b hb).1⟩
  have xb : ∀ j,X.getD j 0 ≤ N := fun j => (inB_getD hb j hN).2
  have hlen : (l.length : Int) ≤ 4 * N := by
    have e : ∀ j,(if (plusV (-1) Y X).getD j 0 < 0 then -sumC l j else 0) ≤ N := fun j => by
      split
      · rw [← hl.sum j,plusV_get h.len hX]
        have := xb j
        have := Yp j
        omega
      · exact hN
    have e0 := e 0
    have e1 := e 1
    have e2 := e 2
    have e3 := e 3
    omega
  intro z hz
  obtain ⟨j,hj,rfl⟩ := List.getElem_of_mem hz
  have h1 := sumC_bnd (j := j) (l := l) fun s hs => inB_mono ((hl.each s hs).1.bnd r1 r2 n4) (by unfold bnd; split <;> (try split) <;> (try split) <;> omega)
  have h2 := hl.sum j
  rw [plusV_get h.len hX] at h2
  have h3 := xb j
  have h4 := Yp j
  rw [List.getD_eq_getElem?_getD,List.getElem?_eq_getElem hj] at h2 h4
  simp only [Option.getD_some] at h2 h4
  have h5 := (posV_get.1 hX0) j
  omega
end
end Go.Abs.Sp
namespace Go.Abs.Sp
open Go.Abs.Cir Go.Proofs.Ytlonaefihjdkpaa
def upd (pr : List Int → Int) (d0 : Int) (r : Option (List Int)) (y : List Int) : Option (List Int) :=
  match r with
  | none => if pr y < d0 then some y else none
  | some z => if pr y < pr z ∨ (pr y = pr z ∧ cmpL y z < 0) then some y else some z
structure IsStep (pr : List Int → Int) (d0 : Int) (l : List (List Int)) (r : Option (List Int)) : Prop where
  no : r = none → ∀ y ∈ l,d0 ≤ pr y
  yes : ∀ z,r = some z → z ∈ l ∧ pr z < d0 ∧ ∀ y ∈ l,pr z < pr y ∨ (pr z = pr y ∧ cmpL z y ≤ 0)
theorem IsStep.uniq {pr : List Int → Int} {d0 : Int} {l l' : List (List Int)} {r r' : Option (List Int)} (h : IsStep pr d0 l r) (h' : IsStep pr d0 l' r') (hm : ∀ y,y ∈ l ↔ y ∈ l') : r = r' := by
  cases r with
  | none =>
    cases r' with
    | none => rfl
    | some z =>
      obtain ⟨h1,h2,-⟩ := h'.yes z rfl
      have := h.no rfl z ((hm z).2 h1)
      omega
  | some w =>
    obtain ⟨w1,w2,w3⟩ := h.yes w rfl
    cases r' with
    | none =>
      have := h'.no rfl w ((hm w).1 w1)
      omega
    | some z =>
      obtain ⟨z1,z2,z3⟩ := h'.yes z rfl
      have k1 := w3 z ((hm z).2 z1)
      have k2 := z3 w ((hm w).1 w1)
      have := cmpL_anti z w
      have : cmpL w z = 0 := by omega
      rw [cmpL_eq this]
end Go.Abs.Sp
