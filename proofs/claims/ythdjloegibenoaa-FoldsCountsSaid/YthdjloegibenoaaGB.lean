/- Folds, plain: how many piles can be folded, by their mountains. -/
import Derived.Test.YthdjloegibenoaaGA
namespace Go.Proofs.Ythdjloegibenoaa
open Go.Abs AVal
open Sp
theorem foldsN_eq {n : Nat} {lit : List (List Int)} {cl : List Int} (hp : (foldL n).Perm lit) (hc : lit.map creP = cl) (s : Int) : foldsN n s = (cl.filter (· == s)).length := by
  rw [foldsN, (hp.filter _).length_eq, ← hc, List.filter_map, List.length_map]; rfl
def tabF (n : Nat) : Nat := [0, 1, 2, 6, 16, 50, 144, 462].getD n 0
theorem facts_of {n : Nat} {lit : List (List Int)} {cl : List Int} (hp : (foldL n).Perm lit) (hc : lit.map creP = cl) (h1 : lit.length = tabF n) (h2 : n * (lit.filter headP).length = tabF n) (h3 : ∀ s : Nat, s < 2 ^ (n - 1) → 1 ≤ (cl.filter (· == (s : Int))).length) (h4 : ((List.range (2 ^ (n - 1))).map fun s : Nat => (cl.filter (· == (s : Int))).length).sum = tabF n) :
    (foldL n).length = tabF n ∧ n * ((foldL n).filter headP).length = tabF n ∧ (∀ s : Nat, s < 2 ^ (n - 1) → 1 ≤ foldsN n s) ∧ ((List.range (2 ^ (n - 1))).map fun s : Nat => foldsN n s).sum = tabF n := by
  refine ⟨by rw [hp.length_eq, h1], by rw [(hp.filter _).length_eq, h2], fun s hs => ?_, ?_⟩
  · rw [foldsN_eq hp hc]; exact h3 s hs
  · rw [← h4]
    congr 1
    exact List.map_congr_left fun s _ => foldsN_eq hp hc s
set_option maxRecDepth 100000 in
theorem facts : ∀ n : Nat, 1 ≤ n → n ≤ 7 → (foldL n).length = tabF n ∧ n * ((foldL n).filter headP).length = tabF n ∧ (∀ s : Nat, s < 2 ^ (n - 1) → 1 ≤ foldsN n s) ∧ ((List.range (2 ^ (n - 1))).map fun s : Nat => foldsN n s).sum = tabF n
  | 0, h, _ => by omega
  | 1, _, _ => facts_of gen1 cre1 (by decide +kernel) (by decide +kernel) (by decide +kernel) (by decide +kernel)
  | 2, _, _ => facts_of gen2 cre2 (by decide +kernel) (by decide +kernel) (by decide +kernel) (by decide +kernel)
  | 3, _, _ => facts_of gen3 cre3 (by decide +kernel) (by decide +kernel) (by decide +kernel) (by decide +kernel)
  | 4, _, _ => facts_of gen4 cre4 (by decide +kernel) (by decide +kernel) (by decide +kernel) (by decide +kernel)
  | 5, _, _ => facts_of gen5 cre5 (by decide +kernel) (by decide +kernel) (by decide +kernel) (by decide +kernel)
  | 6, _, _ => facts_of gen6 cre6 (by decide +kernel) (by decide +kernel) (by decide +kernel) (by decide +kernel)
  | 7, _, _ => facts_of gen7 cre7 (by decide +kernel) (by decide +kernel) (by decide +kernel) (by decide +kernel)
  | n + 8, _, h => by omega
def tabM (n : Nat) : Nat := [0, 2, 8, 60].getD n 0
set_option maxRecDepth 100000 in
theorem maps_facts : ∀ n, n ≤ 3 → 1 ≤ n → mapsN (planP n) n = tabM n := by decide +kernel
end Go.Proofs.Ythdjloegibenoaa
