/- Ranges over functions,walked; states kept as they are; Some of what is owned is given away,the rest stays. -/
import Derived.Test.YtlonaefihjdkpaaAG
namespace Go.Abs
open AVal
def vid (B : Nat) : Nat → AVal → Bool
  | 0,v => match v with
    | .any => true
    | _ => false
  | d + 1,v => match v with
    | .any => true
    | .val _ => true
    | .sl _ _ xs => bndL 0 xs
    | .rp cs => bndL 0 cs
    | .own i _ _ _ _ => decide (i < B)
    | .ptr i _ => decide (i < B)
    | .yld i => decide (i < B)
    | .mp i => decide (i < B)
    | .fn _ a b => a.all (vid B d) && b.all (vid B d)
    | .agg cs => bndL 0 cs || cs.all (vid B d)
    | .tup vs => vs.all (vid B d)
def idρ (B : Nat) : List (Option Nat) := (List.range B).map some
theorem idρ_len (B : Nat) : (idρ B).length = B := by simp [idρ]
theorem idρ_get {B i : Nat} (h : i < B) : ((idρ B)[i]?).join = some i := by simp [idρ,h]
theorem idρ_none {B i : Nat} (h : ¬ i < B) : ((idρ B)[i]?).join = none := by simp [idρ,h]
theorem vid_vle {B : Nat} {H : AHeap} {img : List Nat} : ∀ (d : Nat) (v : AVal),vid B d v = true → vle H (idρ B) img d v v
  | 0,v,h => by cases v <;> first | rfl | (exact absurd h (by simp [vid]))
  | d + 1,v,h => by
    have all : ∀ xs : List AVal,xs.all (vid B d) = true → vle.vleL H (idρ B) img d xs xs := by
      intro xs
      induction xs with
      | nil => intro _; trivial
      | cons a r ih =>
        intro h
        rw [List.all_cons,Bool.and_eq_true] at h
        exact ⟨vid_vle d a h.1,ih h.2⟩
    cases v with
    | any => trivial
    | val v => rfl
    | sl nn t xs => exact ⟨h,fun h => h,fun h => h,rfl⟩
    | rp cs => exact ⟨h,rfl⟩
    | own i off len lb k =>
      have h : i < B := of_decide_eq_true h
      exact ⟨by rw [idρ_len]; exact h,idρ_get h,rfl,rfl,Nat.le_refl _,rfl⟩
    | ptr i off =>
      have h : i < B := of_decide_eq_true h
      exact ⟨by rw [idρ_len]; exact h,idρ_get h,rfl⟩
    | yld i =>
      have h : i < B := of_decide_eq_true h
      exact ⟨by rw [idρ_len]; exact h,idρ_get h⟩
    | mp i =>
      have h : i < B := of_decide_eq_true h
      exact ⟨by rw [idρ_len]; exact h,idρ_get h⟩
    | fn f a b =>
      simp only [vid,Bool.and_eq_true] at h
      exact ⟨rfl,all a h.1,all b h.2⟩
    | agg cs =>
      simp only [vid,Bool.or_eq_true] at h
      exact h.imp (fun h => ⟨rfl,h⟩) (all cs)
    | tup vs => exact all vs h
theorem fr_bnd {B : Nat} : ∀ {fr : Fr},(fr.all fun p => p.2.bnd B) = true → ∀ t,(Fr.get fr t).bnd B = true
  | [],_,_ => rfl
  | (k,v) :: r,h,t => by
    rw [List.all_cons,Bool.and_eq_true] at h
    unfold Fr.get
    split
    · exact h.1
    · exact fr_bnd h.2 t
theorem imgs_id {B : Nat} : ∀ (L : AHeap) (s : Nat),(∀ j ∈ imgs (idρ B) s L,s ≤ j) ∧ (imgs (idρ B) s L).Nodup
  | [],s => by simp [imgs]
  | b :: r,s => by
    obtain ⟨h1,h2⟩ := imgs_id (B := B) r (s + 1)
    unfold imgs
    by_cases ha : b.alive = true
    · rw [if_pos ha]
      by_cases hs : s < B
      · rw [idρ_get hs]
        simp only [List.mem_cons,forall_eq_or_imp,Nat.le_refl,true_and,List.nodup_cons]
        exact ⟨fun j hj => by have := h1 j hj; omega,fun hj => by have := h1 s hj; omega,h2⟩
      · rw [idρ_none hs]
        exact ⟨fun j hj => by have := h1 j hj; omega,h2⟩
    · rw [if_neg ha]
      exact ⟨fun j hj => by have := h1 j hj; omega,h2⟩
theorem fle_id {B : Nat} {H : AHeap} {img : List Nat} {fr : Fr} : ∀ {fr' : Fr},(∀ p ∈ fr',fr.get p.1 = p.2 ∧ vid B 3 p.2 = true) → fle H (idρ B) img fr fr'
  | [],_ => trivial
  | (t,v) :: r,h => by
    obtain ⟨h1,h2⟩ := h (t,v) (by simp)
    refine ⟨?_,fle_id fun p hp => h p (by simp [hp])⟩
    show vle H (idρ B) img 3 (fr.get t) v
    rw [h1]
    exact vid_vle 3 v h2
theorem app_get {α : Type} (a l : List α) (k : Nat) : (a ++ l)[a.length + k]? = l[k]? := by rw [List.getElem?_append_right (by omega)]; congr 1; omega
theorem app_set {α : Type} (a l : List α) (k : Nat) (x : α) : (a ++ l).set (a.length + k) x = a ++ l.set k x := by rw [List.set_append_right _ _ (by omega)]; congr 2; omega
section
variable {x : Cx} {Q : QT} {ks : List Kont} {fr : Fr} {H : AHeap} {ms : List Nat}
end
end Go.Abs
namespace Go.Abs
open AVal
section
variable {P : Program}
end
section
variable {P : Program}
end
end Go.Abs
