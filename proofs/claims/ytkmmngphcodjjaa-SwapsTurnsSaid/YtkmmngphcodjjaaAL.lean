/- Small laws for walking: lists of integers, indices of a range, integers that fit. -/
import Derived.Test.YtkmmngphcodjjaaAW
import Derived.Laws.BitsLemmas
namespace Go.Abs
open AVal

theorem wrap64 {x : Int} (h1 : -9223372036854775808 ≤ x) (h2 : x < 9223372036854775808) : IntKind.i64.wrap x = x := by
  rw [IntKind.wrap_i64]; omega

@[simp] theorem bndL_mapI (N : Nat) (l : List Int) : bndL N (l.map I) = true := bndL_map I l fun _ => rfl
/-- Integers, as elements. -/
def mI (xs : List Int) : List AVal := xs.map I
section
variable {xs pre suf : List Int} {x : Int}
theorem mI_length : (mI xs).length = xs.length := by simp [mI]
theorem mI_bnd {N : Nat} : bndL N (mI xs) = true := bndL_mapI N xs
theorem mI_mid : (mI (pre ++ x :: suf)).getD pre.length .any = I x := by simp [mI, List.getD_eq_getElem?_getD]
theorem mI_get {i : Nat} (h : i < xs.length) : (mI xs).getD i .any = I (xs.getD i 0) := by simp [mI, List.getD_eq_getElem?_getD, h]
theorem mI_cells : (mI xs).flatMap AVal.cells = mI xs := by
  induction xs with
  | nil => rfl
  | cons a r ih => simp only [mI, List.map_cons, List.flatMap_cons] at ih ⊢; rw [ih]; rfl
theorem mI_sz : szOk 1 (mI xs) = True := by
  refine eq_true fun e he => ?_
  obtain ⟨a, _, rfl⟩ := List.mem_map.1 he; rfl
theorem mI_isCell : (∀ u ∈ mI xs, u.isCell = true) = True := by
  refine eq_true fun e he => ?_
  obtain ⟨a, _, rfl⟩ := List.mem_map.1 he; rfl
theorem mI_take {n : Nat} : (mI xs).take n = mI (xs.take n) := by simp [mI]
theorem mI_drop {n : Nat} : (mI xs).drop n = mI (xs.drop n) := by simp [mI]
theorem mI_append {ys : List Int} : mI xs ++ mI ys = mI (xs ++ ys) := by simp [mI]
theorem mI_set {i : Nat} {v : Int} : (mI xs).set i (I v) = mI (xs.set i v) := by simp [mI, List.map_set]
theorem mI_nil : mI [] = [] := rfl
theorem mI_snoc : mI xs ++ [I x] = mI (xs ++ [x]) := by simp [mI]
theorem mI_hd {i : Nat} (h : i < xs.length) : (mI (xs.drop i)).headD .any = I (xs.getD i 0) := by
  rw [List.drop_eq_getElem_cons h]; simp [mI, List.getD_eq_getElem?_getD, h]
theorem mI_put {ys : List Int} {v : Int} : mI xs ++ [I v] ++ mI ys = mI (xs ++ [v] ++ ys) := by simp [mI]
theorem mI_rep {n : Nat} {v : Int} : List.replicate n (I v) = mI (List.replicate n v) := by simp [mI]
end
/-- A slice of integers, as an element. -/
def sI (xs : List Int) : AVal := .sl false false (mI xs)
/-- Slices of integers, as elements. -/
def mS (xs : List (List Int)) : List AVal := xs.map sI
section
variable {xs pre suf : List (List Int)} {x : List Int}
theorem mS_length : (mS xs).length = xs.length := by simp [mS]
theorem mS_bnd {N : Nat} : bndL N (mS xs) = true := bndL_map sI xs fun _ => by simp [sI, AVal.bnd, mI_bnd]
theorem mS_mid : (mS (pre ++ x :: suf)).getD pre.length .any = sI x := by simp [mS, List.getD_eq_getElem?_getD]
theorem mS_get {i : Nat} (h : i < xs.length) : (mS xs).getD i .any = sI (xs.getD i []) := by simp [mS, List.getD_eq_getElem?_getD, h]
theorem mS_cells : (mS xs).flatMap AVal.cells = mS xs := by
  induction xs with
  | nil => rfl
  | cons a r ih => simp only [mS, List.map_cons, List.flatMap_cons] at ih ⊢; rw [ih]; rfl
theorem mS_sz : szOk 1 (mS xs) = True := by
  refine eq_true fun e he => ?_
  obtain ⟨a, _, rfl⟩ := List.mem_map.1 he; rfl
theorem mS_isCell : (∀ u ∈ mS xs, u.isCell = true) = True := by
  refine eq_true fun e he => ?_
  obtain ⟨a, _, rfl⟩ := List.mem_map.1 he; rfl
theorem mS_take {n : Nat} : (mS xs).take n = mS (xs.take n) := by simp [mS]
theorem mS_drop {n : Nat} : (mS xs).drop n = mS (xs.drop n) := by simp [mS]
theorem mS_append {ys : List (List Int)} : mS xs ++ mS ys = mS (xs ++ ys) := by simp [mS]
theorem mS_nil : mS [] = [] := rfl
end
theorem sI_eq (xs : List Int) : sI xs = .sl false false (mI xs) := rfl
theorem cells_sI (xs : List Int) : (sI xs).cells = [sI xs] := rfl
theorem isCell_sI (xs : List Int) : (sI xs).isCell = true := rfl
theorem cellsOk_sI (xs : List Int) : (sI xs).cellsOk = true := rfl
section
variable {α : Type} {pre suf : List α} {x : α} {f : α → AVal} {d : AVal}
theorem rng_lt : ((pre.length : Int) < ((pre ++ x :: suf).length : Int)) = True := by simp; omega
theorem rng_end : ((pre.length : Int) < ((pre ++ ([] : List α)).length : Int)) = False := by simp
theorem rng_get : ((pre ++ x :: suf).map f).getD pre.length d = f x := by simp [List.getD_eq_getElem?_getD]
theorem rng_idx (h : (pre ++ x :: suf).length < 9223372036854775808) : IntKind.i64.wrap ((pre.length : Int) + 1) = ((pre ++ [x]).length : Int) := by
  have : pre.length + (suf.length + 1) < 9223372036854775808 := by simpa using h
  rw [wrap64 (by omega) (by omega)]; simp
end
theorem rng_idx' {α : Type} {pre suf : List α} {x : α} (h : (pre ++ x :: suf).length < 9223372036854775808) : IntKind.i64.wrap ((pre.length : Int) + 1) = (pre.length : Int) + 1 := by
  have : pre.length + (suf.length + 1) < 9223372036854775808 := by simpa using h
  rw [wrap64 (by omega) (by omega)]
theorem cells_I (n : Int) : (I n).cells = [I n] := rfl
theorem cells_B (n : Bool) : (B n).cells = [B n] := rfl
theorem cells_sl (a b : Bool) (xs : List AVal) : (AVal.sl a b xs).cells = [AVal.sl a b xs] := rfl
theorem cells_val (v : Value) : (AVal.val v).cells = [AVal.val v] := rfl
theorem cells_own (i o l b k : Nat) : (AVal.own i o l b k).cells = [AVal.own i o l b k] := rfl
theorem cells_agg (cs : List AVal) : (AVal.agg cs).cells = cs := rfl
theorem isCell_I (n : Int) : (I n).isCell = true := rfl
theorem isCell_B (n : Bool) : (B n).isCell = true := rfl
theorem isCell_nil : nilSl.isCell = true := rfl
theorem isCell_sl (a b : Bool) (xs : List AVal) : (AVal.sl a b xs).isCell = true := rfl
theorem isCell_own (i o l b k : Nat) : (AVal.own i o l b k).isCell = true := rfl
theorem isCell_ptr (i o : Nat) : (AVal.ptr i o).isCell = true := rfl
theorem isCell_fn (f : Fn) (a b : List AVal) : (AVal.fn f a b).isCell = true := rfl
theorem isCell_yld (i : Nat) : (AVal.yld i).isCell = true := rfl
theorem isCell_rp (cs : List AVal) : (AVal.rp cs).isCell = true := rfl
theorem cellsOk_I (n : Int) : (I n).cellsOk = true := rfl
theorem cellsOk_B (n : Bool) : (B n).cellsOk = true := rfl
theorem cellsOk_nil : nilSl.cellsOk = true := rfl
theorem cellsOk_sl (a b : Bool) (xs : List AVal) : (AVal.sl a b xs).cellsOk = true := rfl
theorem cellsOk_own (i o l b k : Nat) : (AVal.own i o l b k).cellsOk = true := rfl
theorem cellsOk_ptr (i o : Nat) : (AVal.ptr i o).cellsOk = true := rfl
theorem cellsOk_fn (f : Fn) (a b : List AVal) : (AVal.fn f a b).cellsOk = true := rfl
theorem cellsOk_yld (i : Nat) : (AVal.yld i).cellsOk = true := rfl
theorem cellsOk_rp (cs : List AVal) : (AVal.rp cs).cellsOk = true := rfl
theorem cellsOk_agg (cs : List AVal) : (AVal.agg cs).cellsOk = cs.all AVal.isCell := rfl
theorem cells_nil : nilSl.cells = [nilSl] := rfl
theorem cells_ptr (i o : Nat) : (AVal.ptr i o).cells = [AVal.ptr i o] := rfl
theorem cells_fn (f : Fn) (a b : List AVal) : (AVal.fn f a b).cells = [AVal.fn f a b] := rfl
theorem cells_rp (cs : List AVal) : (AVal.rp cs).cells = [AVal.rp cs] := rfl
theorem cut_one (cs : List AVal) : cut false 1 cs = cs.headD .any := rfl
/-- An owned block of integers, read from now on as a list. -/
theorem vle_mI {H : AHeap} {ρ : List (Option Nat)} {img : List Nat} {d i n lb : Nat} {cs : List AVal} {xs : List Int} (h : H[i]? = some (.cells cs)) (hi : i ∉ img) (hn : n = xs.length) (hc : cs.take n = mI xs) : vle H ρ img (d + 1) (.own i 0 n lb 1) (.sl false false (mI xs)) := by
  subst hn
  refine ⟨mI_bnd, rfl, rfl, rfl, by omega, hi, mI_length, by rw [mI_sz]; trivial, ?_⟩
  rw [h]
  simp only [Nat.mul_one, mI_cells]
  exact hc
theorem vle_mS {H : AHeap} {ρ : List (Option Nat)} {img : List Nat} {d i n lb : Nat} {cs : List AVal} {xs : List (List Int)} (h : H[i]? = some (.cells cs)) (hi : i ∉ img) (hn : n = xs.length) (hc : cs.take n = mS xs) : vle H ρ img (d + 1) (.own i 0 n lb 1) (.sl false false (mS xs)) := by
  subst hn
  refine ⟨mS_bnd, rfl, rfl, rfl, by omega, hi, mS_length, by rw [mS_sz]; trivial, ?_⟩
  rw [h]
  simp only [Nat.mul_one, mS_cells]
  exact hc
theorem take_mS {xs : List (List Int)} : (mS xs).take xs.length = mS xs := by rw [mS_take, List.take_length]
theorem succ_le_self' (n : Nat) : (n + 1 ≤ n) = False := by simp
theorem mI_one (x : Int) : [I x] = mI [x] := rfl
theorem mS_one (x : List Int) : [AVal.sl false false (mI x)] = mS [x] := rfl
theorem take_mI {xs : List Int} : (mI xs).take xs.length = mI xs := by rw [mI_take, List.take_length]

/-- A leaf: the function returns what lies in one temporary; nothing is owned. -/
theorem leaf {t : Nat} {e : Ex} {fr : Fr} {H : AHeap} {R : AVal → AHeap → Prop} (v : AVal) (hv : vle H [] [] 3 (fr.get t) v) (hR : R v []) (he : e = .norm ∨ e = .ret := by simp) : retA 0 [.tmp t] R e fr H [] :=
  retA_nil he (p := True) (vs := [fr.get t]) (by simp [resL, resA]) trivial hv hR
theorem leaf2 {t u : Nat} {e : Ex} {fr : Fr} {H : AHeap} {R : AVal → AHeap → Prop} (v : AVal) (hv : vle H [] [] 3 (.tup [fr.get t, fr.get u]) v) (hR : R v []) (he : e = .norm ∨ e = .ret := by simp) : retA 0 [.tmp t, .tmp u] R e fr H [] :=
  retA_nil he (p := True) (vs := [fr.get t, fr.get u]) (by simp [resL, resA]) trivial hv hR
theorem Wk.mk0 {ρ : List (Option Nat)} {fr fr' : Fr} {H H' : AHeap} (hl : ρ.length = H'.length) (hn : (imgs ρ 0 H').Nodup) (hh : hle 0 H ρ (imgs ρ 0 H') 0 H') (hf : fle H ρ (imgs ρ 0 H') fr fr') : Wk 0 [] ρ fr H fr' H' :=
  ⟨hl, fun i hi => absurd hi (Nat.not_lt_zero i), hn, hh, hf, fun m hm => by cases hm⟩
theorem round1 {x : Cx} {Q : QT} {ks : List Kont} {fr : Fr} {H : AHeap} (hB : x.B = 0) {ι : Type} {St : ι → Fr × AHeap} {μ : ι → Nat} {i : ι} (j : ι) (ρ : List (Option Nat)) (h1 : μ j < μ i) (h2 : Wk 0 [] ρ fr H (St j).1 (St j).2) : KQ x Q .norm (.loop [] St μ i :: ks) fr H [] :=
  KQ_round rfl j ρ h1 (by rw [hB]; exact h2)
theorem round0 {x : Cx} {Q : QT} {ks : List Kont} {fr : Fr} {H : AHeap} (hB : x.B = 0) {ι : Type} {St : ι → Fr × AHeap} {μ : ι → Nat} {i : ι} (j : ι) (h1 : μ j < μ i) (hn : (St j).2 = []) (h2 : fle H [] [] fr (St j).1) : KQ x Q .norm (.loop [] St μ i :: ks) fr H [] :=
  KQ_round rfl j [] h1 (by rw [hB, hn]; exact Wk.nil h2)

end Go.Abs
