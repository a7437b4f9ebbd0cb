/- Splitting,plain. -/
import Derived.Test.YtlonaefihjdkpaaTMH
namespace Go.Abs.Sp
open Go.Abs.Cir Go.Proofs.Ytlonaefihjdkpaa
def sumC (l : List (List Int)) (j : Nat) : Int := l.foldr (fun y s => y.getD j 0 + s) 0
theorem sumC_app (l m : List (List Int)) (j : Nat) : sumC (l ++ m) j = sumC l j + sumC m j := by
  induction l with
  | nil => simp [sumC]
  | cons y l ih => simp only [sumC,List.cons_append,List.foldr_cons] at ih ⊢; rw [ih]; omega
structure SplitOk (rows : List (List Int)) (n : Nat) (x : List Int) (l : List (List Int)) : Prop where
  each : ∀ y ∈ l,Mini rows n y ∧ fitR y x = true
  sum : ∀ j,x.getD j 0 = sumC l j
structure Part (rows : List (List Int)) (n : Nat) (x v : List Int) (l : List (List Int)) : Prop where
  len : v.length = 4
  pad : ∀ j,n ≤ j → v.getD j 0 = 0
  mv : moveB rows v = true
  fit : fitR v x = true
  each : ∀ y ∈ l,Mini rows n y ∧ fitR y x = true
  sum : ∀ j,x.getD j 0 = v.getD j 0 + sumC l j
  few : (l.length : Int) + size v ≤ size x
theorem size_nn (x : List Int) : 0 ≤ size x := by
  have h0 := ab_nonneg (x.getD 0 0)
  have h1 := ab_nonneg (x.getD 1 0)
  have h2 := ab_nonneg (x.getD 2 0)
  have h3 := ab_nonneg (x.getD 3 0)
  unfold size; omega
theorem size_pos {x : List Int} (hx : x.length = 4) (hn : x ≠ z4) : 1 ≤ size x := by
  have hs := size_nn x
  by_cases h : size x = 0
  · exfalso
    refine hn (ext4 hx rfl fun j => ?_)
    rw [z4_getD]
    have h0 := ab_nonneg (x.getD 0 0)
    have h1 := ab_nonneg (x.getD 1 0)
    have h2 := ab_nonneg (x.getD 2 0)
    have h3 := ab_nonneg (x.getD 3 0)
    unfold size at h
    have z : ∀ {y : Int},ab y = 0 → y = 0 := fun {y} => by unfold ab; split <;> omega
    rcases (show j = 0 ∨ j = 1 ∨ j = 2 ∨ j = 3 ∨ 4 ≤ j by omega) with rfl | rfl | rfl | rfl | h
    · exact z (by omega)
    · exact z (by omega)
    · exact z (by omega)
    · exact z (by omega)
    · rw [List.getD_eq_getElem?_getD,List.getElem?_eq_none (by omega)]; rfl
  · omega
theorem dp_plus {k : Int} : ∀ {r x y : List Int},x.length = y.length → dp r (plusV k x y) = dp r x + k * dp r y
  | [],x,y,_ => by simp [dp]
  | a :: r,[],[],_ => by simp [dp,plusV]
  | _ :: _,[],_ :: _,h => by simp at h
  | _ :: _,_ :: _,[],h => by simp at h
  | a :: r,b :: x,c :: y,h => by
    have ih := dp_plus (k := k) (r := r) (x := x) (y := y) (by simpa using h)
    unfold plusV at ih ⊢
    simp only [List.zipWith_cons_cons,dp]
    rw [ih]
    grind
theorem Part.step {rows : List (List Int)} {n : Nat} {x v y : List Int} {l : List (List Int)} (hx : x.length = 4) (h : Part rows n x v l) (hy : Mini rows n y) (hf : fitR y v = true) : Part rows n x (plusV (-1) v y) (l ++ [y]) ∧ size (plusV (-1) v y) < size v := by
  have g := plusV_get (k := -1) h.len hy.mv.len
  have hv := (fitR_iff (by rw [h.len,hy.mv.len] : y.length = v.length)).1 hf
  have hvx := (fitR_iff (by rw [h.len,hx] : v.length = x.length)).1 h.fit
  have hs : size (plusV (-1) v y) + size y = size v := by
    have a : ∀ j,ab ((plusV (-1) v y).getD j 0) + ab (y.getD j 0) = ab (v.getD j 0) := fun j => by
      rw [g j]
      have := hv j
      unfold ab
      split <;> split <;> split <;> omega
    have a0 := a 0
    have a1 := a 1
    have a2 := a 2
    have a3 := a 3
    unfold size
    omega
  have h1 := size_pos hy.mv.len hy.mv.ne
  refine ⟨⟨plusV_len h.len hy.mv.len,fun j hj => by rw [g j,h.pad j hj,hy.mv.pad j hj]; omega,?_,?_,fun z hz => ?_,fun j => ?_,?_⟩,by omega⟩
  · have m1 := h.mv
    have m2 := hy.mv.mv
    unfold moveB at m1 m2 ⊢
    rw [List.all_eq_true] at m1 m2 ⊢
    intro r hr
    have e1 := m1 r hr
    have e2 := m2 r hr
    simp only [beq_iff_eq] at e1 e2 ⊢
    rw [dp_plus (by rw [h.len,hy.mv.len]),e1,e2]; omega
  · rw [fitR_iff (by rw [plusV_len h.len hy.mv.len,hx])]
    intro j
    rw [g j]
    have := hv j
    have := hvx j
    omega
  · rcases List.mem_append.1 hz with hz | hz
    · exact h.each z hz
    · simp at hz; subst hz
      exact ⟨hy,fitR_trans hy.mv.len h.len hx hf h.fit⟩
  · have := h.sum j
    rw [g j,sumC_app]
    have e : sumC [y] j = y.getD j 0 := by simp [sumC]
    omega
  · have := h.few
    simp
    omega
theorem Part.start {rows : List (List Int)} {n : Nat} {x : List Int} (hx : x.length = 4) (hp : ∀ j,n ≤ j → x.getD j 0 = 0) (hm : moveB rows x = true) : Part rows n x x [] :=
  ⟨hx,hp,hm,fitR_refl x,by simp,fun j => by simp [sumC],by simp⟩
theorem Part.done {rows : List (List Int)} {n : Nat} {x v : List Int} {l : List (List Int)} (h : Part rows n x v l) (hv : v = z4) : SplitOk rows n x l :=
  ⟨h.each,fun j => by rw [h.sum j,hv,z4_getD]; omega⟩
theorem Part.some {a : List (List Int)} {bs : List (List Int)} (hm : mat a = true) (hB : IsB (a.map Sp.pad) (a.getD 0 []).length bs) {x v : List Int} {l : List (List Int)} (h : Part (a.map Sp.pad) (a.getD 0 []).length x v l) (hv : v ≠ z4) : ∃ y ∈ bs,fitR y v = true := by
  obtain ⟨r1,r2,-,r4⟩ := mat_cols hm rfl
  obtain ⟨u,u1,u2,u3⟩ := small r1 r2 r4 ⟨h.len,h.pad,hv,h.mv⟩
  obtain ⟨L,hp,hs,rfl⟩ := hB
  have hu : u ∈ L := hp.mem_iff.2 ((mem_movesL r1.len r4).2 ⟨u1,inB_mono u3 (bnd_most _ _)⟩)
  obtain ⟨y,hy,hf⟩ := keepMin_cov L [] u hu
  have hyL := (mem_bs hm ⟨L,hp,hs,rfl⟩).1 hy
  exact ⟨y,hy,fitR_trans hyL.mv.len u1.len h.len hf u2⟩
end Go.Abs.Sp
