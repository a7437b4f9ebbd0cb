/- Folds, plain: whether a pile can be folded, by which leaf is over which; a pile upside down, from the other end, without its last leaf. -/
import Derived.Test.YthdjloegibenoaaFM
namespace Go.Abs.Sp
open AVal

/-- Leaf a is over leaf b. -/
def ltD (D : List Int) (a b : Nat) : Bool := decide (D.idxOf (a : Int) < D.idxOf (b : Int))
def xr (D : List Int) (i j : Nat) : Bool := (ltD D i j != ltD D (i + 1) j) != (ltD D i (j + 1) != ltD D (i + 1) (j + 1))

theorem places_lt {n : Nat} {D : List Int} (h : Pile n D) {a b : Nat} (ha : a < n) (hb : b < n) : decide ((placesP D).getD a 0 < (placesP D).getD b 0) = ltD D a b := by
  rw [places_get h ha, places_get h hb, ltD, decide_eq_decide]; omega
theorem places_ne {n : Nat} {D : List Int} (h : Pile n D) {a b : Nat} (ha : a < n) (hb : b < n) (hab : a ≠ b) : (placesP D).getD a 0 ≠ (placesP D).getD b 0 := by
  rw [places_get h ha, places_get h hb]
  have := idx_inj h ha hb hab
  omega
theorem ltD_not {n : Nat} {D : List Int} (h : Pile n D) {a b : Nat} (ha : a < n) (hb : b < n) (hab : a ≠ b) : ltD D b a = !ltD D a b := by
  have := idx_inj h ha hb hab
  rw [ltD, ltD, ← decide_not, decide_eq_decide]; omega
theorem cross_xr {n : Nat} {D : List Int} (h : Pile n D) {i j : Nat} (hij : i < j) (hj : j + 1 < n) (hs : i % 2 = j % 2) : crossP (placesP D) ⟨i, i + 1, i % 2⟩ ⟨j, j + 1, j % 2⟩ = xr D i j := by
  have h2 : i + 2 ≤ j := by omega
  rw [cross_eq (places_ne h (by dsimp only; omega) (by dsimp only; omega) (by dsimp only; omega)) (places_ne h (by dsimp only; omega) (by dsimp only; omega) (by dsimp only; omega)) (places_ne h (by dsimp only; omega) (by dsimp only; omega) (by dsimp only; omega)) (places_ne h (by dsimp only; omega) (by dsimp only; omega) (by dsimp only; omega))]
  dsimp only
  rw [if_pos hs, places_lt h (by omega) (by omega), places_lt h (by omega) (by omega), places_lt h (by omega) (by omega), places_lt h (by omega) (by omega), xr]

theorem fstJ_none {p : List Int} {c : Cr} : ∀ (l : List Cr) (j : Nat), fstJ p c j l = none ↔ ∀ d ∈ l, crossP p c d = false
  | [], j => by simp [fstJ]
  | d :: l, j => by
    rw [fstJ]
    cases h : crossP p c d with
    | true => simp [h]
    | false => simp [h, fstJ_none l (j + 1)]
theorem fstG_none {p : List Int} : ∀ (l : List Cr) (i : Nat), fstG p i l = none ↔ l.Pairwise fun c d => crossP p c d = false
  | [], i => by simp [fstG]
  | c :: l, i => by
    rw [fstG, List.pairwise_cons, ← fstJ_none l (i + 1), ← fstG_none l (i + 1)]
    cases h : fstJ p c (i + 1) l with
    | none => simp
    | some j => simp
theorem poss_pairs {D : List Int} {l : List Cr} : possP D l = true ↔ l.Pairwise fun c d => crossP (placesP D) c d = false := by
  rw [possP, firstP, Option.isNone_iff_eq_none, fstG_none]
theorem poss_iff {n : Nat} {D : List Int} (h : Pile n D) : possP D (stripC n) = true ↔ ∀ i j, i < j → j + 1 < n → i % 2 = j % 2 → xr D i j = false := by
  rw [poss_pairs]
  constructor
  · intro hp i j hij hj hs
    rw [stripC, stripG, List.pairwise_map, List.pairwise_iff_getElem] at hp
    have := hp i j (by simp; omega) (by simp; omega) hij
    simp only [List.getElem_range] at this
    rwa [cross_xr h hij hj hs] at this
  · intro hx
    refine strip_pairs fun i j hij hj => ?_
    by_cases hs : i % 2 = j % 2
    · rw [cross_xr h hij hj hs]; exact hx i j hij hj hs
    · simp only [crossP, hs, if_false]

theorem rev_pile {n : Nat} {D : List Int} (h : Pile n D) : Pile n D.reverse :=
  ⟨by rw [List.length_reverse]; exact h.len, fun x hx => h.rng x (List.mem_reverse.1 hx), fun j hj => List.mem_reverse.2 (h.cov j hj), (List.reverse_perm D).nodup_iff.2 h.nd⟩
theorem idx_of_get {D : List Int} (hn : D.Nodup) {k : Nat} (hk : k < D.length) {x : Int} (hx : D[k] = x) : D.idxOf x = k := by
  subst hx
  exact List.Nodup.idxOf_getElem hn k hk
theorem rev_idx {n : Nat} {D : List Int} (h : Pile n D) {a : Nat} (ha : a < n) : D.reverse.idxOf (a : Int) = n - 1 - D.idxOf (a : Int) := by
  have h1 := idx_lt' h ha
  have hl := h.len
  refine idx_of_get (rev_pile h).nd (by simp; omega) ?_
  rw [List.getElem_reverse]
  have e : D.length - 1 - (n - 1 - D.idxOf (a : Int)) = D.idxOf (a : Int) := by omega
  simp only [e]
  exact List.getElem_idxOf (List.idxOf_lt_length_of_mem (h.cov a ha))
theorem rev_lt {n : Nat} {D : List Int} (h : Pile n D) {a b : Nat} (ha : a < n) (hb : b < n) : ltD D.reverse a b = ltD D b a := by
  have h1 := idx_lt' h ha
  have h2 := idx_lt' h hb
  rw [ltD, ltD, rev_idx h ha, rev_idx h hb, decide_eq_decide]; omega
theorem rev_poss {n : Nat} {D : List Int} (h : Pile n D) : possP D.reverse (stripC n) = possP D (stripC n) := by
  rw [Bool.eq_iff_iff, poss_iff h, poss_iff (rev_pile h)]
  refine forall_congr' fun i => forall_congr' fun j => imp_congr_right fun hij => imp_congr_right fun hj => imp_congr_right fun hs => ?_
  have h2 : i + 2 ≤ j := by omega
  rw [xr, xr, rev_lt h (by omega) (by omega), rev_lt h (by omega) (by omega), rev_lt h (by omega) (by omega), rev_lt h (by omega) (by omega),
    ltD_not h (a := i) (b := j) (by omega) (by omega) (by omega), ltD_not h (a := i + 1) (b := j) (by omega) (by omega) (by omega), ltD_not h (a := i) (b := j + 1) (by omega) (by omega) (by omega), ltD_not h (a := i + 1) (b := j + 1) (by omega) (by omega) (by omega)]
  generalize ltD D i j = b1
  generalize ltD D (i + 1) j = b2
  generalize ltD D i (j + 1) = b3
  generalize ltD D (i + 1) (j + 1) = b4
  revert b1 b2 b3 b4
  decide

theorem map_nodup {f : Int → Int} (hf : ∀ x y, f x = f y → x = y) : ∀ {l : List Int}, l.Nodup → (l.map f).Nodup
  | [], _ => by simp
  | x :: l, h => by
    obtain ⟨h1, h2⟩ := List.nodup_cons.1 h
    rw [List.map_cons, List.nodup_cons]
    refine ⟨fun hm => ?_, map_nodup hf h2⟩
    obtain ⟨y, hy, e⟩ := List.mem_map.1 hm
    rw [← hf _ _ e] at h1
    exact h1 hy
end Go.Abs.Sp
namespace Go.Proofs.Ythdjloegibenoaa
open Go.Abs AVal
open Sp
theorem back_pile {n : Nat} {D : List Int} (h : Pile n D) : Pile n (backP D) := by
  have hl := h.len
  refine ⟨by rw [backP_len]; exact hl, fun x hx => ?_, fun j hj => ?_, ?_⟩
  · obtain ⟨y, hy, rfl⟩ := List.mem_map.1 hx
    have := h.rng y hy
    omega
  · exact List.mem_map.2 ⟨((n - 1 - j : Nat) : Int), h.cov _ (by omega), by omega⟩
  · exact map_nodup (fun x y e => by omega) h.nd
theorem back_idx {n : Nat} {D : List Int} (h : Pile n D) {a : Nat} (ha : a < n) : (backP D).idxOf (a : Int) = D.idxOf ((n - 1 - a : Nat) : Int) := by
  have hl := h.len
  have h1 := idx_lt' h (show n - 1 - a < n by omega)
  refine idx_of_get (back_pile h).nd (by rw [backP_len]; omega) ?_
  simp only [backP, List.getElem_map]
  rw [List.getElem_idxOf (List.idxOf_lt_length_of_mem (h.cov _ (by omega)))]
  omega
theorem back_lt {n : Nat} {D : List Int} (h : Pile n D) {a b : Nat} (ha : a < n) (hb : b < n) : ltD (backP D) a b = ltD D (n - 1 - a) (n - 1 - b) := by
  rw [ltD, ltD, back_idx h ha, back_idx h hb]
theorem back_xr {n : Nat} {D : List Int} (h : Pile n D) {i j : Nat} (hij : i < j) (hj : j + 1 < n) (hs : i % 2 = j % 2) : xr (backP D) i j = xr D (n - 2 - j) (n - 2 - i) := by
  have h2 : i + 2 ≤ j := by omega
  rw [xr, xr, back_lt h (by omega) (by omega), back_lt h (by omega) (by omega), back_lt h (by omega) (by omega), back_lt h (by omega) (by omega)]
  obtain ⟨k, hk⟩ : ∃ k, n - 2 - j = k := ⟨_, rfl⟩
  obtain ⟨l, hl⟩ : ∃ l, n - 2 - i = l := ⟨_, rfl⟩
  rw [hk, hl, show n - 1 - i = l + 1 by omega, show n - 1 - j = k + 1 by omega, show n - 1 - (i + 1) = l by omega, show n - 1 - (j + 1) = k by omega]
  rw [ltD_not h (a := k + 1) (b := l + 1) (by omega) (by omega) (by omega), ltD_not h (a := k + 1) (b := l) (by omega) (by omega) (by omega), ltD_not h (a := k) (b := l + 1) (by omega) (by omega) (by omega), ltD_not h (a := k) (b := l) (by omega) (by omega) (by omega)]
  generalize ltD D k l = b1
  generalize ltD D (k + 1) l = b2
  generalize ltD D k (l + 1) = b3
  generalize ltD D (k + 1) (l + 1) = b4
  revert b1 b2 b3 b4
  decide
theorem back_poss {n : Nat} {D : List Int} (h : Pile n D) : possP (backP D) (stripC n) = possP D (stripC n) := by
  rw [Bool.eq_iff_iff, poss_iff h, poss_iff (back_pile h)]
  constructor
  · intro hx i j hij hj hs
    have := hx (n - 2 - j) (n - 2 - i) (by omega) (by omega) (by omega)
    rw [back_xr h (by omega) (by omega) (by omega), show n - 2 - (n - 2 - i) = i by omega, show n - 2 - (n - 2 - j) = j by omega] at this
    exact this
  · intro hx i j hij hj hs
    rw [back_xr h hij hj hs]
    exact hx _ _ (by omega) (by omega) (by omega)
theorem back_back (D : List Int) : backP (backP D) = D := by
  conv => rhs; rw [← List.map_id D]
  rw [backP, backP_len, backP, List.map_map]
  refine List.map_congr_left fun x _ => ?_
  simp only [Function.comp_apply, id]; omega

theorem filter_idx {q : Int → Bool} {a b : Int} (ha : q a = true) (hb : q b = true) : ∀ l : List Int, ((l.filter q).idxOf a < (l.filter q).idxOf b ↔ l.idxOf a < l.idxOf b)
  | [] => by simp
  | x :: l => by
    have ih := filter_idx ha hb l
    by_cases hx : q x = true
    · rw [List.filter_cons_of_pos hx, List.idxOf_cons, List.idxOf_cons, List.idxOf_cons, List.idxOf_cons]
      cases h1 : (x == a) <;> cases h2 : (x == b) <;> simp only [cond_true, cond_false] <;> omega
    · rw [List.filter_cons_of_neg hx, List.idxOf_cons, List.idxOf_cons]
      have h1 : (x == a) = false := by rw [beq_eq_false_iff_ne]; rintro rfl; exact hx ha
      have h2 : (x == b) = false := by rw [beq_eq_false_iff_ne]; rintro rfl; exact hx hb
      rw [h1, h2]
      simp only [cond_false]; omega
theorem open_lt {D : List Int} {m a b : Nat} (ha : a < m) (hb : b < m) : ltD (openP m D) a b = ltD D a b := by
  rw [ltD, ltD, decide_eq_decide]
  exact filter_idx (by simp; omega) (by simp; omega) D
theorem open_pile {n : Nat} {D : List Int} (h : Pile (n + 1) D) (hn : n ≤ 8) : Pile n (openP n D) := by
  refine ⟨?_, fun x hx => ?_, fun j hj => ?_, h.nd.filter _⟩
  · have hc : D.countP (fun x => decide (x = (n : Int))) = 1 := by
      have : D.count (n : Int) = 1 := by rw [h.nd.count, if_pos (h.cov n (by omega))]
      rw [← this, List.count]
      refine List.countP_congr fun x _ => ?_
      simp
    have := List.length_eq_countP_add_countP (fun x => decide (x = (n : Int))) (l := D)
    rw [h.len, hc] at this
    rw [openP, ← List.countP_eq_length_filter]
    have e : List.countP (fun x => !decide (x = (n : Int))) D = List.countP (fun a => ¬(decide (a = (n : Int))) = true) D := List.countP_congr fun x _ => by simp
    rw [e]; omega
  · rw [openP, List.mem_filter] at hx
    have h1 := h.rng x hx.1
    have h2 : x ≠ n := by simpa using hx.2
    omega
  · rw [openP, List.mem_filter]
    exact ⟨h.cov j (by omega), by simp; omega⟩
theorem open_poss {n : Nat} {D : List Int} (h : Pile (n + 1) D) (hn : n ≤ 8) (hp : possP D (stripC (n + 1)) = true) : possP (openP n D) (stripC n) = true := by
  rw [poss_iff (open_pile h hn)]
  rw [poss_iff h] at hp
  intro i j hij hj hs
  have := hp i j hij (by omega) hs
  rw [xr, open_lt (by omega) (by omega), open_lt (by omega) (by omega), open_lt (by omega) (by omega), open_lt (by omega) (by omega)]
  exact this
/-- The mountains, from which leaf is over its next one. -/
def creB : Nat → List Bool → Int → Int
  | _, [], out => out
  | i, b :: r, out => creB (i + 1) r (if (b == (((i % 2 : Nat) : Int) == 0)) = true then orI out (shl1 i) else out)
def ltsD (D : List Int) (n : Nat) : List Bool := (List.range (n - 1)).map fun i => ltD D i (i + 1)
theorem creG_eq {n : Nat} {D : List Int} (h : Pile n D) : ∀ (m i : Nat) (out : Int), i + m + 1 ≤ n → creG (placesP D) (List.range' i m) out = creB i ((List.range' i m).map fun i => ltD D i (i + 1)) out
  | 0, i, out, _ => rfl
  | m + 1, i, out, hi => by
    rw [List.range'_succ, List.map_cons, creG, creB, creG_eq h m (i + 1) _ (by omega)]
    congr 1
    have : decide ((placesP D).getD (i + 1) 0 > (placesP D).getD i 0) = ltD D i (i + 1) := by
      rw [← places_lt h (by omega) (by omega)]
    rw [this]
theorem creP_eq {n : Nat} {D : List Int} (h : Pile n D) (hn : 1 ≤ n) : creP D = creB 0 (ltsD D n) 0 := by
  have := creG_eq h (n - 1) 0 0 (by omega)
  rw [← List.range_eq_range'] at this
  rw [creP, h.len, this, ltsD]
def allB : Nat → List (List Bool)
  | 0 => [[]]
  | m + 1 => (allB m).map (true :: ·) ++ (allB m).map (false :: ·)
theorem mem_allB : ∀ l : List Bool, l ∈ allB l.length
  | [] => by simp [allB]
  | true :: l => List.mem_append_left _ (List.mem_map.2 ⟨l, mem_allB l, rfl⟩)
  | false :: l => List.mem_append_right _ (List.mem_map.2 ⟨l, mem_allB l, rfl⟩)
def xorI (x y : Int) : Int := bitsI .xor .i64 x y
def andI (x y : Int) : Int := bitsI .and .i64 x y
theorem creB_dec : ∀ m, m < 7 → ∀ l ∈ allB m, xorI (creB 0 l 0) (creB 0 (l.map not) 0) = IntKind.i64.wrap (IntKind.i64.wrap (1 * 2 ^ min m 64) - 1) ∧ ∀ k, k ≤ m → creB 0 (l.take k) 0 = andI (creB 0 l 0) (IntKind.i64.wrap (IntKind.i64.wrap (1 * 2 ^ min k 64) - 1)) := by decide +kernel
theorem ltsD_len (D : List Int) (n : Nat) : (ltsD D n).length = n - 1 := by simp [ltsD]
theorem rev_lts {n : Nat} {D : List Int} (h : Pile n D) : ltsD D.reverse n = (ltsD D n).map not := by
  rw [ltsD, ltsD, List.map_map]
  refine List.map_congr_left fun i hi => ?_
  have := List.mem_range.1 hi
  rw [rev_lt h (by omega) (by omega), ltD_not h (a := i) (b := i + 1) (by omega) (by omega) (by omega)]; rfl
theorem rev_cre {n : Nat} {D : List Int} (h : Pile n D) (h1 : 1 ≤ n) (h7 : n ≤ 7) : xorI (creP D) (creP D.reverse) = IntKind.i64.wrap (IntKind.i64.wrap (1 * 2 ^ min (n - 1) 64) - 1) := by
  rw [creP_eq h h1, creP_eq (rev_pile h) h1, rev_lts h]
  have := (creB_dec (n - 1) (by omega) (ltsD D n) (by have := mem_allB (ltsD D n); rwa [ltsD_len] at this)).1
  exact this
theorem lts_take {D E : List Int} {n k : Nat} (hk : k ≤ n) (h : ∀ a b : Nat, a < k → b < k → ltD E a b = ltD D a b) : ltsD E k = (ltsD D n).take (k - 1) := by
  rw [ltsD, ltsD, ← List.map_take, List.take_range, show min (k - 1) (n - 1) = k - 1 by omega]
  refine List.map_congr_left fun i hi => ?_
  have := List.mem_range.1 hi
  exact h _ _ (by omega) (by omega)
theorem cut_cre {n k : Nat} {D E : List Int} (h : Pile n D) (h' : Pile k E) (h1 : 1 ≤ k) (hk : k ≤ n) (h7 : n ≤ 7) (hl : ∀ a b : Nat, a < k → b < k → ltD E a b = ltD D a b) : creP E = andI (creP D) (IntKind.i64.wrap (IntKind.i64.wrap (1 * 2 ^ min (k - 1) 64) - 1)) := by
  rw [creP_eq h (by omega), creP_eq h' h1, lts_take hk hl]
  exact (creB_dec (n - 1) (by omega) (ltsD D n) (by have := mem_allB (ltsD D n); rwa [ltsD_len] at this)).2 (k - 1) (by omega)
end Go.Proofs.Ythdjloegibenoaa
