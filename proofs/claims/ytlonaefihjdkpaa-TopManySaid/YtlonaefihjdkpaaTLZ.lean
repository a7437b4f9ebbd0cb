/- Basic moves,plain: the one answer; columns exchanged. -/
import Derived.Test.YtlonaefihjdkpaaTLY
namespace Go.Abs.Sp
open Go.Abs.Cir Go.Proofs.Ytlonaefihjdkpaa
def basB (rows : List (List Int)) (n : Nat) : List (List Int) := keepMin [] ((movesL rows n).mergeSort fun x y => decide (size x ≤ size y))
theorem basB_is (rows : List (List Int)) (n : Nat) : IsB rows n (basB rows n) := by
  refine ⟨_,List.mergeSort_perm _ _,?_,rfl⟩
  refine (List.pairwise_mergeSort (fun a b c h1 h2 => ?_) (fun a b => ?_) _).imp fun h => by simpa using h
  · simp at h1 h2 ⊢; omega
  · simp; omega
def basL (a : List (List Int)) : List (List Int) := ansL (a.getD 0 []).length (basB (a.map pad) (a.getD 0 []).length)
theorem perm_of {α : Type} [DecidableEq α] {l l' : List α} (h1 : l.Nodup) (h2 : l'.Nodup) (h : ∀ a,a ∈ l ↔ a ∈ l') : l.Perm l' := by
  rw [List.perm_iff_count]
  intro a
  rw [h1.count,h2.count]
  simp [h a]
theorem mem_basL {a : List (List Int)} (h : mat a = true) {x : List Int} : x ∈ basL a ↔ x.length = (a.getD 0 []).length ∧ Mini (a.map pad) (a.getD 0 []).length (pad x) := mem_ans h (basB_is _ _)
theorem posV_pad {x : List Int} : posV (pad x) = posV x := by
  unfold posV pad
  rw [List.all_append]
  have : (List.replicate (4 - x.length) (0 : Int)).all (fun a => decide (0 ≤ a)) = true := by
    rw [List.all_eq_true]; intro z hz; rw [List.eq_of_mem_replicate hz]; rfl
  rw [this,Bool.and_true]
end Go.Abs.Sp
