/- Choosing in turns,plain; All orders,plain: how the program and the reference count them up. -/
import Derived.Test.YtkmmngphcodjjaaPZ
namespace Go.Abs.Sp
def turnsG (w : List (List Int)) : List Int → Int → List Int → List Int
  | [],_,D => D
  | i :: r,left,D => turnsG w r (butI left (shl1 (bestAt w i.toNat left))) (D.set i.toNat (bestAt w i.toNat left))
def fullS (n : Nat) : Int := IntKind.i64.wrap (shl1 n - 1)
def turnsP (w : List (List Int)) (o : List Int) : List Int := turnsG w o (fullS w.length) (List.replicate w.length 0)
theorem shl_set : ∀ i : Nat,i < 6 → isSet (shl1 i) ∧ ∀ j : Nat,j < 6 → has (shl1 i) j = decide (j = i) := by unfold isSet; decide +kernel
theorem pc_but_dec : ∀ k : Nat,k < 64 → ∀ i : Nat,i < 6 → pc (butI k (shl1 i)) + 1 ≥ pc k := by decide +kernel
theorem pc_but {m : Int} (hm : isSet m) {i : Nat} (hi : i < 6) : pc (butI m (shl1 i)) + 1 ≥ pc m := allSets (p := fun m => ∀ i : Nat,i < 6 → pc (butI m (shl1 i)) + 1 ≥ pc m) pc_but_dec hm i hi
theorem pc_pos_dec : ∀ k : Nat,k < 64 → 0 < pc k → ∃ j : Nat,j < 6 ∧ has k j = true := by decide +kernel
theorem pc_pos {m : Int} (hm : isSet m) (h : 0 < pc m) : ∃ j : Nat,j < 6 ∧ has m j = true := allSets (p := fun m => 0 < pc m → ∃ j : Nat,j < 6 ∧ has m j = true) pc_pos_dec hm h
structure Left (n : Nat) (left : Int) (k : Nat) : Prop where
  set : isSet left
  lt : ∀ j : Nat,j < 6 → has left j = true → j < n
  pc : k ≤ pc left
theorem left_full {n : Nat} (hn : n ≤ 6) : Left n (fullS n) n :=
  ⟨(full_dec n (by omega)).1,fun j hj h => by rw [fullS,(full_dec n (by omega)).2 j hj] at h; simpa using h,by rw [fullS,pc_full_dec n (by omega)]; exact Nat.le_refl _⟩
theorem Left.bit {w : List (List Int)} (g : Good w) {left : Int} {k : Nat} (h : Left w.length left (k + 1)) {i : Nat} (hi : i < w.length) : ∃ c ∈ w.getD i [],(bitAt left c == 1) = true := by
  obtain ⟨j,hj,hb⟩ := pc_pos h.set (by have := h.pc; omega)
  exact ⟨j,g.cov _ (getD_mem hi) j (h.lt j hj hb),hb⟩
theorem Left.best {w : List (List Int)} (g : Good w) {left : Int} {k : Nat} (h : Left w.length left (k + 1)) {i : Nat} (hi : i < w.length) : ∃ c : Nat,c < w.length ∧ bestAt w i left = c ∧ has left c = true := by
  have h0 := idx_pos (h.bit g hi)
  have h1 := (idx_lt (fun c => bitAt left c == 1) (w.getD i [])).2
  have hm : bestAt w i left ∈ w.getD i [] := getD_mem (by omega)
  have hr := g.rng _ (getD_mem hi) _ hm
  have hb : (bitAt left (bestAt w i left) == 1) = true := idx_get h0
  refine ⟨(bestAt w i left).toNat,by omega,(Int.toNat_of_nonneg hr.1).symm,?_⟩
  unfold has
  rw [Int.toNat_of_nonneg hr.1]
  exact hb
theorem Left.step {n : Nat} {left : Int} {k : Nat} (h : Left n left (k + 1)) {c : Nat} (hc : c < 6) : Left n (butI left (shl1 c)) k := by
  have hs := shl_set c hc
  refine ⟨but_set h.set hs.1,fun j hj hb => ?_,by have := pc_but h.set hc; have := h.pc; omega⟩
  rw [has_but h.set hs.1 hj,Bool.and_eq_true] at hb
  exact h.lt j hj hb.1
def TakenOf (n : Nat) (taken left : Int) : Prop := isSet taken ∧ ∀ j : Nat,j < n → has taken j = !has left j
theorem TakenOf.step {n : Nat} {taken left : Int} (h : TakenOf n taken left) (hl : isSet left) (hn : n ≤ 6) {c : Nat} (hc : c < n) : TakenOf n (orI taken (shl1 c)) (butI left (shl1 c)) := by
  have hs := shl_set c (by omega)
  refine ⟨or_set h.1 (by omega),fun j hj => ?_⟩
  rw [has_or h.1 (by omega) (by omega),has_but hl hs.1 (by omega),hs.2 j (by omega),h.2 j hj]
  cases has left j <;> cases decide (j = c) <;> rfl
theorem turnsG_len (w : List (List Int)) : ∀ (o : List Int) (left : Int) (D : List Int),(turnsG w o left D).length = D.length
  | [],_,_ => rfl
  | i :: r,left,D => by unfold turnsG; rw [turnsG_len w r]; simp
theorem turnsP_len (w : List (List Int)) (o : List Int) : (turnsP w o).length = w.length := by rw [turnsP,turnsG_len]; simp
end Go.Abs.Sp
namespace Go.Abs.Sp
def comps (n : Nat) (set : Int) : Nat → Nat → Int → List Int → List (List Int)
  | 0,_,_,pre => [pre]
  | m + 1,i,left,pre => if (bitAt set i == 0) = true then comps n set m (i + 1) left (pre ++ [0]) else
      (List.range n).flatMap fun (c : Nat) => if (bitAt left (c : Int) == 1) = true then comps n set m (i + 1) (butI left (shl1 c)) (pre ++ [(c : Int)]) else []
def dealsR (n : Nat) : Nat → List Int → List (List Int)
  | 0,b => [b]
  | m + 1,b => (List.range n).flatMap fun (x : Nat) => if (x : Int) ∈ b then [] else dealsR n m (b ++ [(x : Int)])
theorem comps_deals {n : Nat} (hn : n ≤ 6) : ∀ (m i : Nat) (left : Int) (pre : List Int),i + m = n → isSet left → (∀ c : Nat,c < n → (has left c = true ↔ (c : Int) ∉ pre)) → comps n (fullS n) m i left pre = dealsR n m pre
  | 0,_,_,_,_,_,_ => rfl
  | m + 1,i,left,pre,him,hs,hl => by
    have hb : (bitAt (fullS n) i == 0) = false := by
      rw [bit_zero (left_full hn).set (show i < 6 by omega),fullS,(full_dec n (by omega)).2 i (by omega)]
      simp; omega
    unfold comps dealsR
    rw [hb]
    simp only [Bool.false_eq_true,if_false]
    unfold List.flatMap
    congr 1
    apply List.map_congr_left
    intro c hc
    have hc := List.mem_range.1 hc
    have h1 : (bitAt left (c : Int) == 1) = has left c := rfl
    have hsh := shl_set c (by omega)
    rw [h1]
    by_cases hcp : (c : Int) ∈ pre
    · have : has left c = false := by
        cases hh : has left c with
        | false => rfl
        | true => exact absurd hcp ((hl c hc).1 hh)
      rw [this,if_neg (by simp),if_pos hcp]
    · rw [(hl c hc).2 hcp,if_pos rfl,if_neg hcp]
      refine comps_deals hn m (i + 1) _ _ (by omega) (but_set hs hsh.1) fun x hx => ?_
      rw [has_but hs hsh.1 (by omega),hsh.2 x (by omega),Bool.and_eq_true,hl x hx,List.mem_append,List.mem_singleton]
      simp only [Bool.not_eq_true',decide_eq_false_iff_not]
      constructor
      · rintro ⟨h1,h2⟩ (h3 | h3)
        · exact h1 h3
        · exact h2 (by omega)
      · intro h
        exact ⟨fun h3 => h (.inl h3),fun h3 => h (.inr (by omega))⟩
theorem deals_ok {n : Nat} : ∀ (m : Nat) (b : List Int),b.length + m = n → (∀ x ∈ b,0 ≤ x ∧ x < n) → ∀ o ∈ dealsR n m b,o.length = n ∧ ∀ x ∈ o,0 ≤ x ∧ x < n
  | 0,b,hl,hb,o,ho => by
    simp [dealsR] at ho
    subst ho
    exact ⟨by omega,hb⟩
  | m + 1,b,hl,hb,o,ho => by
    simp only [dealsR,List.mem_flatMap,List.mem_range] at ho
    obtain ⟨x,hx,ho⟩ := ho
    split at ho
    · cases ho
    · refine deals_ok m _ (by simp; omega) (fun y hy => ?_) o ho
      rcases List.mem_append.1 hy with hy | hy
      · exact hb y hy
      · simp at hy; omega
def allDeals (n : Nat) : List (List Int) := dealsR n n []
theorem comps_all {n : Nat} (hn : n ≤ 6) : comps n (fullS n) n 0 (fullS n) [] = allDeals n :=
  comps_deals hn n 0 _ _ (by omega) (left_full hn).set fun c hc => by
    unfold has fullS
    have := (full_dec n (by omega)).2 c (by omega)
    unfold has at this
    rw [this,decide_eq_true hc]; simp
theorem all_ok {n : Nat} {o : List Int} (h : o ∈ allDeals n) : o.length = n ∧ ∀ x ∈ o,0 ≤ x ∧ x < n := deals_ok n [] (by simp) (by simp) o h
end Go.Abs.Sp
