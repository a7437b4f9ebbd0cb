/- Folds: creases and piles as plain data, and what the functions compute. -/
import Derived.Test.YthdjloegibenoaaSP
import Derived.Test.YthdjloegibenoaaAN
namespace Go.Abs
open AVal

/-- A crease. -/
structure Cr where
  a : Nat
  b : Nat
  s : Nat
def crA (c : Cr) : AVal := .agg [I c.a, I c.b, I c.s]
def crs (l : List Cr) : List AVal := l.flatMap fun c => [I c.a, I c.b, I c.s]
def mC (l : List Cr) : List AVal := l.map crA
section
variable {l pre suf : List Cr} {c : Cr}
theorem mC_length : (mC l).length = l.length := by simp [mC]
theorem mC_bnd {N : Nat} : bndL N (mC l) = true := bndL_map crA l fun _ => rfl
theorem mC_cells : (mC l).flatMap AVal.cells = crs l := by
  induction l with
  | nil => rfl
  | cons a r ih => simp only [mC, crs, List.map_cons, List.flatMap_cons] at ih ⊢; rw [ih]; rfl
theorem mC_get {i : Nat} (h : i < l.length) : (mC l).getD i .any = crA (l[i]) := by simp [mC, List.getD_eq_getElem?_getD, h]
theorem mC_mid : (mC (pre ++ c :: suf)).getD pre.length .any = crA c := by simp [mC, List.getD_eq_getElem?_getD]
theorem mC_sz : szOk 3 (mC l) = True := by
  refine eq_true fun e he => ?_
  obtain ⟨a, _, rfl⟩ := List.mem_map.1 he; rfl
theorem crs_len : (crs l).length = l.length * 3 := by
  induction l with
  | nil => rfl
  | cons a r ih => simp only [crs, List.flatMap_cons, List.length_append] at ih ⊢; rw [ih]; simp; omega
theorem crs_bnd {N : Nat} : bndL N (crs l) = true := bndL_of fun x hx => by
  obtain ⟨c, _, hx⟩ := List.mem_flatMap.1 hx
  simp at hx; rcases hx with rfl | rfl | rfl <;> rfl
theorem crs_isCell : (∀ u ∈ crs l, u.isCell = true) = True := by
  refine eq_true fun x hx => ?_
  obtain ⟨c, _, hx⟩ := List.mem_flatMap.1 hx
  simp at hx; rcases hx with rfl | rfl | rfl <;> rfl
theorem crs_take : (crs l).take (l.length * 3) = crs l := by rw [← crs_len, List.take_length]
theorem crs_snoc : crs l ++ [I c.a, I c.b, I c.s] = crs (l ++ [c]) := by simp [crs]
theorem crs_append : crs pre ++ crs suf = crs (pre ++ suf) := by simp [crs]
end
theorem cells_crA (c : Cr) : (crA c).cells = [I c.a, I c.b, I c.s] := rfl
theorem crA_eq (c : Cr) : crA c = .agg [I c.a, I c.b, I c.s] := rfl
theorem cut_three (x y z : AVal) : cut true 3 [x, y, z] = .agg [x, y, z] := rfl
theorem cut_two' (x y : AVal) : cut true 2 [x, y] = .agg [x, y] := rfl
end Go.Abs
namespace Go.Abs.Sp
open AVal
/-- The creases of a strip. -/
def stripG (i : Nat) : List Cr := (List.range i).map fun i => ⟨i, i + 1, i % 2⟩
def stripC (n : Nat) : List Cr := stripG (n - 1)
theorem stripG_len (i : Nat) : (stripG i).length = i := by simp [stripG]
theorem stripG_succ (i : Nat) : stripG (i + 1) = stripG i ++ [⟨i, i + 1, i % 2⟩] := by simp [stripG, List.range_succ]
/-- Where leaves are. -/
def plG : Nat → List Int → List Int → List Int
  | _, [], out => out
  | i, x :: r, out => plG (i + 1) r (out.set x.toNat i)
def placesP (D : List Int) : List Int := plG 0 D (List.replicate D.length 0)
def loP (p : List Int) (c : Cr) : Int := if p.getD c.b 0 < p.getD c.a 0 then p.getD c.b 0 else p.getD c.a 0
def hiP (p : List Int) (c : Cr) : Int := if p.getD c.b 0 > p.getD c.a 0 then p.getD c.b 0 else p.getD c.a 0
def within (p : List Int) (c : Cr) (x : Int) : Bool := decide (loP p c < x) && decide (x < hiP p c)
def crossP (p : List Int) (c d : Cr) : Bool := if c.s = d.s then within p c (loP p d) != within p c (hiP p d) else false
/-- The first crease behind that crosses. -/
def fstJ (p : List Int) (c : Cr) : Nat → List Cr → Option Nat
  | _, [] => none
  | j, d :: r => if crossP p c d then some j else fstJ p c (j + 1) r
def fstG (p : List Int) : Nat → List Cr → Option (Nat × Nat)
  | _, [] => none
  | i, c :: r => match fstJ p c (i + 1) r with
    | some j => some (i, j)
    | none => fstG p (i + 1) r
def firstP (p : List Int) (l : List Cr) : Option (Nat × Nat) := fstG p 0 l
def possP (D : List Int) (l : List Cr) : Bool := (firstP (placesP D) l).isNone
/-- A pile of n leaves, as the program asks it. -/
def isStrip (D : List Int) : Bool := decide (1 ≤ D.length) && (decide (D.length ≤ 7) && isOrder D D.length)

theorem plG_len : ∀ (i : Nat) (D out : List Int), (plG i D out).length = out.length
  | _, [], out => rfl
  | i, x :: r, out => by rw [plG, plG_len (i + 1) r]; simp
theorem placesP_len (D : List Int) : (placesP D).length = D.length := by rw [placesP, plG_len]; simp
theorem stripC_len (n : Nat) : (stripC n).length = n - 1 := stripG_len _
theorem stripC_ok {n : Nat} {c : Cr} (h : c ∈ stripC n) : c.a < n ∧ c.b < n := by
  obtain ⟨i, hi, rfl⟩ := List.mem_map.1 h
  have := List.mem_range.1 hi
  exact ⟨by dsimp only; omega, by dsimp only; omega⟩
theorem isOrderGo_rng {n : Int} : ∀ {D : List Int} {s : Int}, (isOrderGo n s D).isSome = true → ∀ x ∈ D, 0 ≤ x ∧ x < n
  | [], _, _, x, hx => by cases hx
  | y :: D, s, h, x, hx => by
    unfold isOrderGo at h
    split at h
    · cases h
    · split at h
      · cases h
      · rcases List.mem_cons.1 hx with rfl | hx
        · omega
        · exact isOrderGo_rng h x hx
theorem order_rng {D : List Int} {n : Int} (h : isOrder D n = true) : (D.length : Int) = n ∧ ∀ x ∈ D, 0 ≤ x ∧ x < n := by
  unfold isOrder at h
  cases hg : isOrderGo n 0 D with
  | none => rw [hg] at h; cases h
  | some s =>
    rw [hg] at h
    dsimp only at h
    split at h
    · rename_i hn
      exact ⟨by simpa using hn, isOrderGo_rng (s := 0) (by rw [hg]; rfl)⟩
    · cases h
theorem strip_ok {D : List Int} (h : isStrip D = true) : (1 ≤ D.length ∧ D.length ≤ 7) ∧ ∀ x ∈ D, 0 ≤ x ∧ x < D.length := by
  simp only [isStrip, Bool.and_eq_true, decide_eq_true_eq] at h
  exact ⟨⟨h.1, h.2.1⟩, (order_rng h.2.2).2⟩
end Go.Abs.Sp
