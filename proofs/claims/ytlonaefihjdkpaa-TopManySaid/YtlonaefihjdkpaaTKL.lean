/- Vectors of four numbers: laws for walking,and what the functions compute. -/
import Derived.Test.YtlonaefihjdkpaaAG
namespace Go.Abs
open AVal
def vec (v : List Int) : AVal := .agg (mI v)
def mV (vs : List (List Int)) : List AVal := vs.map vec
section
variable {xs pre suf : List (List Int)} {x : List Int}
theorem mV_length : (mV xs).length = xs.length := by simp [mV]
theorem mV_bnd {N : Nat} : bndL N (mV xs) = true := bndL_map vec xs fun _ => by simp [vec,AVal.bnd,mI_bnd]
theorem mV_cells : (mV xs).flatMap AVal.cells = mI xs.flatten := by
  induction xs with
  | nil => rfl
  | cons a r ih =>
    simp only [mV,List.map_cons,List.flatMap_cons,List.flatten_cons] at ih ⊢
    rw [ih,← mI_append]; rfl
theorem mV_get {i : Nat} (h : i < xs.length) : (mV xs).getD i .any = vec (xs.getD i []) := by simp [mV,List.getD_eq_getElem?_getD,h]
theorem mV_mid : (mV (pre ++ x :: suf)).getD pre.length .any = vec x := by simp [mV,List.getD_eq_getElem?_getD]
theorem mV_sz (h : ∀ v ∈ xs,v.length = 4) : szOk 4 (mV xs) := fun e he => by
  obtain ⟨a,ha,rfl⟩ := List.mem_map.1 he
  simp [vec,AVal.cells,mI_length,h a ha]
end
theorem cells_vec (v : List Int) : (vec v).cells = mI v := rfl
theorem vec_eq (v : List Int) : vec v = .agg (mI v) := rfl
theorem flat_len {xs : List (List Int)} (h : ∀ v ∈ xs,v.length = 4) : xs.flatten.length = xs.length * 4 := by
  induction xs with
  | nil => rfl
  | cons a r ih => simp [ih fun v hv => h v (by simp [hv]),h a (by simp)]; omega
theorem vle_mV {H : AHeap} {ρ : List (Option Nat)} {img : List Nat} {d i n lb : Nat} {xs : List (List Int)} (h4 : ∀ v ∈ xs,v.length = 4) (h : H[i]? = some (.cells (mI xs.flatten))) (hi : i ∉ img) (hn : n = xs.length) : vle H ρ img (d + 1) (.own i 0 n lb 4) (.sl false false (mV xs)) := by
  subst hn
  refine ⟨mV_bnd,rfl,rfl,rfl,by omega,hi,mV_length,mV_sz h4,?_⟩
  rw [h]
  simp only [mV_cells]
  rw [← flat_len h4,← mI_length (xs := xs.flatten),List.take_length]
theorem cut_vec {v : List Int} (h : v.length = 4) : cut true 4 (mI v) = vec v := by
  show AVal.agg ((mI v).take 4) = _
  rw [← h,mI_take,List.take_length]; rfl
theorem cut_two (x y : AVal) : cut true 2 [x,y] = .agg [x,y] := rfl
theorem pad_eq {xs : List Int} (h : xs.length ≤ 4) : mI (List.take (min xs.length 4) xs) ++ List.drop (min xs.length 4) [I 0,I 0,I 0,I 0] = mI (xs ++ List.replicate (4 - xs.length) 0) := by
  rw [show min xs.length 4 = xs.length by omega,List.take_length,← mI_append]
  congr 1
  rw [show [I 0,I 0,I 0,I 0] = List.replicate 4 (I 0) from rfl,List.drop_replicate,mI_rep]
theorem vle_vec {H : AHeap} {ρ : List (Option Nat)} {img : List Nat} {d : Nat} (v : List Int) : vle H ρ img (d + 1) (vec v) (vec v) := .inl ⟨rfl,mI_bnd⟩
theorem allI_cell (xs : List Int) : (mI xs).all AVal.isCell = true := List.all_eq_true.2 fun u hu => by obtain ⟨a,_,rfl⟩ := List.mem_map.1 hu; rfl
end Go.Abs
namespace Go.Abs.Sp
open AVal
def minL : List Int → Int
  | [] => 0
  | x :: r => r.foldl (fun m y => if y < m then y else m) x
def maxL : List Int → Int
  | [] => 0
  | x :: r => r.foldl (fun m y => if y > m then y else m) x
def numbers (l : List Int) (lo hi : Int) : Bool := l.all fun x => decide (lo ≤ x) && decide (x ≤ hi)
theorem min_fold (lo : Int) : ∀ (r : List Int) (x : Int),lo ≤ r.foldl (fun m y => if y < m then y else m) x ↔ lo ≤ x ∧ ∀ y ∈ r,lo ≤ y
  | [],x => by simp
  | y :: r,x => by
    rw [List.foldl_cons,min_fold lo r]
    simp only [List.mem_cons,forall_eq_or_imp]
    split
    · constructor
      · rintro ⟨h1,h2⟩; exact ⟨by omega,h1,h2⟩
      · rintro ⟨_,h1,h2⟩; exact ⟨h1,h2⟩
    · constructor
      · rintro ⟨h1,h2⟩; exact ⟨h1,by omega,h2⟩
      · rintro ⟨h1,_,h2⟩; exact ⟨h1,h2⟩
theorem max_fold (hi : Int) : ∀ (r : List Int) (x : Int),r.foldl (fun m y => if y > m then y else m) x ≤ hi ↔ x ≤ hi ∧ ∀ y ∈ r,y ≤ hi
  | [],x => by simp
  | y :: r,x => by
    rw [List.foldl_cons,max_fold hi r]
    simp only [List.mem_cons,forall_eq_or_imp]
    split
    · constructor
      · rintro ⟨h1,h2⟩; exact ⟨by omega,h1,h2⟩
      · rintro ⟨_,h1,h2⟩; exact ⟨h1,h2⟩
    · constructor
      · rintro ⟨h1,h2⟩; exact ⟨h1,by omega,h2⟩
      · rintro ⟨h1,_,h2⟩; exact ⟨h1,h2⟩
theorem numbers_iff {l : List Int} (h : l ≠ []) {lo hi : Int} : numbers l lo hi = true ↔ lo ≤ minL l ∧ maxL l ≤ hi := by
  cases l with
  | nil => exact absurd rfl h
  | cons x r =>
    unfold minL maxL numbers
    rw [min_fold,max_fold,List.all_eq_true]
    simp only [List.mem_cons,forall_eq_or_imp,Bool.and_eq_true,decide_eq_true_eq]
    constructor
    · rintro ⟨⟨h1,h2⟩,h3⟩; exact ⟨⟨h1,fun y hy => (h3 y hy).1⟩,h2,fun y hy => (h3 y hy).2⟩
    · rintro ⟨⟨h1,h2⟩,h3,h4⟩; exact ⟨⟨h1,h3⟩,fun y hy => ⟨h2 y hy,h4 y hy⟩⟩
theorem minL_snoc {l : List Int} (h : l ≠ []) (y : Int) : minL (l ++ [y]) = if y < minL l then y else minL l := by
  cases l with
  | nil => exact absurd rfl h
  | cons x r =>
    show List.foldl _ x (r ++ [y]) = _
    rw [List.foldl_append]; rfl
theorem maxL_snoc {l : List Int} (h : l ≠ []) (y : Int) : maxL (l ++ [y]) = if y > maxL l then y else maxL l := by
  cases l with
  | nil => exact absurd rfl h
  | cons x r =>
    show List.foldl _ x (r ++ [y]) = _
    rw [List.foldl_append]; rfl
def pad (l : List Int) : List Int := l ++ List.replicate (4 - l.length) 0
theorem pad_len {l : List Int} (h : l.length ≤ 4) : (pad l).length = 4 := by simp [pad]; omega
def mat (a : List (List Int)) : Bool := decide (1 ≤ a.length) && (decide (a.length ≤ 2) && a.all fun r => decide (r.length = (a.getD 0 []).length) && (decide (1 ≤ r.length) && (decide (r.length ≤ 4) && numbers r (-2) 2)))
def dotG (s : Int) : List Int → List Int → Int
  | x :: xs,y :: ys => dotG (IntKind.i64.wrap (s + IntKind.i64.wrap (x * y))) xs ys
  | _,_ => s
def dot (x y : List Int) : Int := dotG 0 x y
def absW (x : Int) : Int := if IntKind.i64.wrap (0 - x) > x then IntKind.i64.wrap (0 - x) else x
def fitG : List Int → List Int → Bool
  | x :: xs,y :: ys => if (x != 0 && (decide (x > 0) != decide (y > 0) || decide (absW x > absW y))) = true then false else fitG xs ys
  | _,_ => true
def fitR : List Int → List Int → Bool
  | x :: xs,y :: ys => if (decide (x > 0) && decide (x > y) || decide (x < 0) && decide (x < y)) = true then false else fitR xs ys
  | _,_ => true
end Go.Abs.Sp
namespace Go.Abs.Sp
def vecOk (a : List (List Int)) (x : List Int) (lo hi : Int) : Bool := mat a && (decide (x.length = (a.getD 0 []).length) && numbers x lo hi)
theorem fitG_step {x y : List Int} {i : Nat} (hx : i < x.length) (hy : i < y.length) : fitG (x.drop i) (y.drop i) = if (x.getD i 0 != 0 && (decide (x.getD i 0 > 0) != decide (y.getD i 0 > 0) || decide (absW (x.getD i 0) > absW (y.getD i 0)))) = true then false else fitG (x.drop (i + 1)) (y.drop (i + 1)) := by
  rw [List.drop_eq_getElem_cons hx,List.drop_eq_getElem_cons hy]
  simp only [fitG,List.getD_eq_getElem?_getD,List.getElem?_eq_getElem hx,List.getElem?_eq_getElem hy,Option.getD_some]
end Go.Abs.Sp
