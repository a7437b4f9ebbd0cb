/- Folds, plain: all piles in order, twice told; mountains. -/
import Derived.Test.YthdjloegibenoaaFQ
import Derived.Test.YthdjloegibenoaaFD
namespace Go.Abs.Sp
/-- All piles of n leaves that begin with some, as the reference grows them. -/
def dealsR (n : Nat) : Nat → List Int → List (List Int)
  | 0, b => [b]
  | m + 1, b => (List.range n).flatMap fun (x : Nat) => if (x : Int) ∈ b then [] else dealsR n m (b ++ [(x : Int)])

theorem deals_ok {n : Nat} : ∀ (m : Nat) (b : List Int), b.length + m = n → (∀ x ∈ b, 0 ≤ x ∧ x < n) → ∀ o ∈ dealsR n m b, o.length = n ∧ ∀ x ∈ o, 0 ≤ x ∧ x < n
  | 0, b, hl, hb, o, ho => by
    simp [dealsR] at ho
    subst ho
    exact ⟨by omega, hb⟩
  | m + 1, b, hl, hb, o, ho => by
    simp only [dealsR, List.mem_flatMap, List.mem_range] at ho
    obtain ⟨x, hx, ho⟩ := ho
    split at ho
    · cases ho
    · refine deals_ok m _ (by simp; omega) (fun y hy => ?_) o ho
      rcases List.mem_append.1 hy with hy | hy
      · exact hb y hy
      · simp at hy; omega


theorem deals_mem {n : Nat} : ∀ (m : Nat) (b o : List Int), b.length + m = n → o.length = n → (∀ x ∈ o, 0 ≤ x ∧ x < n) → o.Nodup → o.take b.length = b → o ∈ dealsR n m b
  | 0, b, o, hl, ho, hr, hn, hp => by
    have : o = b := by rw [← hp, List.take_of_length_le (by omega)]
    simp [dealsR, this]
  | m + 1, b, o, hl, ho, hr, hn, hp => by
    have hlt : b.length < o.length := by omega
    obtain ⟨x, hx⟩ : ∃ x, o[b.length] = x := ⟨_, rfl⟩
    have hxr := hr x (by rw [← hx]; exact List.getElem_mem _)
    obtain ⟨c, rfl⟩ : ∃ c : Nat, x = c := ⟨x.toNat, by omega⟩
    have hp' : o.take (b ++ [(c : Int)]).length = b ++ [(c : Int)] := by
      rw [List.length_append, List.length_singleton, List.take_add_one, hp, List.getElem?_eq_getElem hlt, hx]; rfl
    have hnb : (c : Int) ∉ b := fun hc => by
      have hnd : (o.take (b ++ [(c : Int)]).length).Nodup := hn.sublist (List.take_sublist _ _)
      rw [hp', List.nodup_append] at hnd
      exact hnd.2.2 _ hc _ (by simp) rfl
    simp only [dealsR, List.mem_flatMap, List.mem_range]
    exact ⟨c, by omega, by rw [if_neg hnb]; exact deals_mem m _ o (by simp; omega) ho hr hn hp'⟩
theorem deals_nodup {n : Nat} : ∀ (m : Nat) (b o : List Int), b.Nodup → o ∈ dealsR n m b → o.Nodup
  | 0, b, o, hb, ho => by simp [dealsR] at ho; subst ho; exact hb
  | m + 1, b, o, hb, ho => by
    simp only [dealsR, List.mem_flatMap, List.mem_range] at ho
    obtain ⟨x, hx, ho⟩ := ho
    split at ho
    · cases ho
    · rename_i hnx
      refine deals_nodup m _ o (List.nodup_append.2 ⟨hb, by simp, ?_⟩) ho
      intro a ha b' hb' hab
      simp at hb'
      subst hb'; subst hab
      exact hnx ha
/-- Mountains. -/
def creG (p : List Int) : List Nat → Int → Int
  | [], out => out
  | i :: r, out => creG p r (if (decide (p.getD (i + 1) 0 > p.getD i 0) == (((i % 2 : Nat) : Int) == 0)) = true then orI out (shl1 i) else out)
def creP (D : List Int) : Int := creG (placesP D) (List.range (D.length - 1)) 0
end Go.Abs.Sp
namespace Go.Proofs.Ythdjloegibenoaa
open Go.Abs AVal
theorem ext_deals {n : Nat} (hn : n ≤ 8) : ∀ (m : Nat) (used : Int) (D : List Int), Sp.isSet used → (∀ c : Nat, c < n → (Sp.has used c = true ↔ (c : Int) ∈ D)) → ext n m used D = Sp.dealsR n m D
  | 0, _, _, _, _ => rfl
  | m + 1, used, D, hs, hu => by
    unfold ext Sp.dealsR
    unfold List.flatMap
    congr 1
    apply List.map_congr_left
    intro c hc
    have hc := List.mem_range.1 hc
    rw [Sp.bit_zero hs (by omega)]
    by_cases hcd : (c : Int) ∈ D
    · rw [(hu c hc).2 hcd, if_neg (by simp), if_pos hcd]
    · have : Sp.has used c = false := by
        cases hh : Sp.has used c with
        | false => rfl
        | true => exact absurd ((hu c hc).1 hh) hcd
      rw [this, if_pos (by simp), if_neg hcd]
      refine ext_deals hn m _ _ (Sp.or_set hs (by omega)) fun x hx => ?_
      rw [Sp.has_or hs (by omega) (by omega), Bool.or_eq_true, hu x hx, decide_eq_true_eq, List.mem_append, List.mem_singleton, Int.natCast_inj]
theorem piles_deals {n : Nat} (hn : n ≤ 8) : pilesA n = Sp.dealsR n n [] :=
  ext_deals hn n 0 [] Sp.set0 fun c hc => by rw [Sp.has0 c (by omega)]; simp
theorem mem_piles {n : Nat} (hn : n ≤ 8) {D : List Int} : D ∈ pilesA n ↔ Sp.Pile n D := by
  rw [piles_deals hn]
  constructor
  · intro h
    obtain ⟨h1, h2⟩ := Sp.deals_ok n [] (by simp) (by simp) D h
    have h3 := Sp.deals_nodup n [] D (by simp) h
    exact Sp.nodup_pile hn h1 h2 h3
  · intro h
    exact Sp.deals_mem n [] D (by simp) h.len h.rng h.nd (by simp)
theorem mem_fold {n : Nat} (hn : n ≤ 8) {D : List Int} : D ∈ foldL n ↔ Sp.Pile n D ∧ Sp.possP D (Sp.stripC n) = true := by
  rw [foldL, List.mem_filter, mem_piles hn]
end Go.Proofs.Ythdjloegibenoaa
