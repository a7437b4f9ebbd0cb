/- Plain: the assortments of cards,and how many orders each has. -/
import Derived.Test.YtlonaefihjdkpaaWB
import Derived.Test.YtlonaefihjdkpaaTNU
namespace Go.Proofs.Ytlonaefihjdkpaa
open Go.Abs AVal
def asL : Nat → Nat → List (List Int)
  | 0,k => if k = 0 then [[]] else []
  | n + 1,k => (List.range (k + 1)).flatMap fun c => (asL n (k - c)).map fun v => (c : Int) :: v
theorem sum_nn : ∀ {y : List Int},(∀ z ∈ y,0 ≤ z) → 0 ≤ y.sum
  | [],_ => by simp
  | z :: y,h => by
    have := sum_nn (y := y) fun w hw => h w (by simp [hw])
    have := h z (by simp)
    rw [List.sum_cons]; omega
theorem mem_asL : ∀ (n k : Nat) (y : List Int),y ∈ asL n k ↔ y.length = n ∧ (∀ z ∈ y,0 ≤ z) ∧ y.sum = k
  | 0,k,y => by
    unfold asL
    split
    · rename_i hk
      subst hk
      rw [List.mem_singleton]
      constructor
      · rintro rfl; simp
      · rintro ⟨h,-⟩; exact List.eq_nil_of_length_eq_zero h
    · rename_i hk
      constructor
      · intro h; cases h
      · rintro ⟨h,-,hs⟩
        have := List.eq_nil_of_length_eq_zero h
        subst this
        simp at hs; omega
  | n + 1,k,y => by
    unfold asL
    rw [List.mem_flatMap]
    constructor
    · rintro ⟨c,hc,hy⟩
      obtain ⟨v,hv,rfl⟩ := List.mem_map.1 hy
      obtain ⟨h1,h2,h3⟩ := (mem_asL n (k - c) v).1 hv
      have := List.mem_range.1 hc
      refine ⟨by simp [h1],fun z hz => ?_,?_⟩
      · rcases List.mem_cons.1 hz with rfl | hz
        · omega
        · exact h2 z hz
      · rw [List.sum_cons,h3]; omega
    · rintro ⟨h1,h2,h3⟩
      cases y with
      | nil => simp at h1
      | cons c v =>
        have hc := h2 c (by simp)
        have hv : ∀ z ∈ v,0 ≤ z := fun z hz => h2 z (by simp [hz])
        have := sum_nn hv
        rw [List.sum_cons] at h3
        refine ⟨c.toNat,List.mem_range.2 (by omega),List.mem_map.2 ⟨v,(mem_asL n _ v).2 ⟨by simpa using h1,hv,by omega⟩,?_⟩⟩
        rw [Int.toNat_of_nonneg hc]
def firstL (n k : Nat) : List Int := (k : Int) :: List.replicate (n - 1) 0
theorem dp_ones : ∀ {n : Nat} {y : List Int},n ≤ 4 → y.length = n → Sp.dp (Sp.pad (onesL n)) (Sp.pad y) = y.sum
  | 0,[],_,_ => by decide
  | 1,[a],_,_ => by simp [onesL,Sp.pad,Sp.dp]
  | 2,[a,b],_,_ => by simp [onesL,Sp.pad,Sp.dp,List.replicate]
  | 3,[a,b,c],_,_ => by simp [onesL,Sp.pad,Sp.dp,List.replicate]
  | 4,[a,b,c,d],_,_ => by simp [onesL,Sp.pad,Sp.dp,List.replicate]
theorem many_basic {n : Nat} (h1 : 1 ≤ n) (h4 : n ≤ 4) (hm : Sp.mat [onesL n] = true) : (Sp.basL [onesL n]).any posV = false := by
  rw [List.any_eq_false]
  intro x hx hp
  obtain ⟨hl,hM⟩ := (Sp.mem_basL hm).1 hx
  have hl' : x.length = n := by simpa [onesL] using hl
  have h0 : Sp.dp (Sp.pad (onesL n)) (Sp.pad x) = 0 := by
    have := Sp.moveB_all.1 hM.mv.mv (Sp.pad (onesL n)) (by simp)
    exact this
  rw [dp_ones h4 hl'] at h0
  have hz : ∀ z ∈ x,0 ≤ z := fun z hz => by
    unfold posV at hp
    simpa using List.all_eq_true.1 hp z hz
  refine hM.mv.ne ?_
  have all0 : ∀ (y : List Int),(∀ z ∈ y,0 ≤ z) → y.sum = 0 → ∀ z ∈ y,z = 0 := by
    intro y
    induction y with
    | nil => intro _ _ z hz; cases hz
    | cons c v ih =>
      intro h hs z hz
      have hc := h c (by simp)
      have hv : ∀ z ∈ v,0 ≤ z := fun z hz => h z (by simp [hz])
      have := sum_nn hv
      rw [List.sum_cons] at hs
      rcases List.mem_cons.1 hz with rfl | hz
      · omega
      · exact ih hv (by omega) z hz
  have hx0 := all0 x hz h0
  have hrep : x = List.replicate n 0 := by rw [List.eq_replicate_iff]; exact ⟨hl',hx0⟩
  subst hrep
  have : ∀ n : Nat,n ≤ 4 → Sp.pad (List.replicate n 0) = Sp.z4 := by decide
  exact this n h4
theorem many_fam {n k : Nat} (h1 : 1 ≤ n) (h4 : n ≤ 4) (hasc : (asL n k).Pairwise fun a b => Sp.cmpL a b < 0) : FamL [onesL n] (firstL n k) (asL n k) := by
  refine ⟨hasc,fun y => ?_⟩
  rw [mem_asL]
  have e0 : ([onesL n].getD 0 []).length = n := by simp [onesL]
  have e1 : [onesL n].map Sp.pad = [Sp.pad (onesL n)] := rfl
  have hfl : (firstL n k).length = n := by simp [firstL]; omega
  have hfs : (firstL n k).sum = k := by simp [firstL]
  rw [e0,e1]
  have hpl : ∀ {z : List Int},z.length = n → (Sp.pad z).length = 4 := fun h => Sp.pad_len (by omega)
  have hpos : posV (Sp.pad y) = true ↔ ∀ z ∈ y,0 ≤ z := by rw [Sp.posV_pad]; unfold posV; simp [List.all_eq_true]
  constructor
  · rintro ⟨hl,hz,hs⟩
    refine ⟨hl,hpl hl,fun j hj => ?_,hpos.2 hz,Sp.moveB_all.2 fun r hr => ?_⟩
    · unfold Sp.pad
      rw [List.getD_eq_getElem?_getD,List.getElem?_append_right (by omega),List.getElem?_replicate]
      split <;> rfl
    · rw [List.mem_singleton] at hr
      subst hr
      rw [Sp.dp_plus (by rw [hpl hl,hpl hfl]),dp_ones h4 hl,dp_ones h4 hfl,hs,hfs]; omega
  · rintro ⟨hl,hF⟩
    refine ⟨hl,hpos.1 hF.pos,?_⟩
    have := Sp.moveB_all.1 hF.mv (Sp.pad (onesL n)) (by simp)
    rw [Sp.dp_plus (by rw [hpl hl,hpl hfl]),dp_ones h4 hl,dp_ones h4 hfl,hfs] at this
    omega
/-! What the loops work out. -/
def wayG (left : Int) : Nat → Int → Int
  | 0,w => w
  | c + 1,w => IntKind.i64.wrap ((IntKind.i64.wrap (wayG left c w * IntKind.i64.wrap (left - c))).tdiv (IntKind.i64.wrap (c + 1)))
structure WSt where
  ways : Int
  left : Int
  each : Bool
def stepW (s : WSt) (c : Int) : WSt := ⟨wayG s.left c.toNat s.ways,IntKind.i64.wrap (s.left - c),s.each && decide (c > 0)⟩
def runW (k : Nat) (v : List Int) : WSt := v.foldl stepW ⟨1,k,true⟩
def addW (k : Nat) (s : Int) (v : List Int) : Int := if (runW k v).each then IntKind.i64.wrap (s + (runW k v).ways) else s
def sumW (k : Nat) (F : List (List Int)) : Int := F.foldl (addW k) 0
def okW (k : Nat) (v : List Int) : Bool := (List.range v.length).all fun j => decide (0 ≤ v.getD j 0) && (decide (v.getD j 0 ≤ 6) && decide (v.getD j 0 ≤ (runW k (v.take j)).left))
def okN (n k : Nat) : Bool :=
  let S := sum16 n (2 ^ n - 1 : Int) k; let D := den16 n k; let x := fN S D; let y := fD S D; let A := powW n k
  decide (Sml S) && (decide (Sml D) && (decide (D ≠ 0) && (decide (y ≥ 1) && (decide (y ≤ A) && (decide (x ≥ 0) && (decide (x ≤ y) && decide (IntKind.i64.wrap (x * A) = IntKind.i64.wrap (sumW k (asL n k) * y))))))))
set_option maxRecDepth 100000 in
theorem okN_dec : ∀ n : Nat,n < 5 → 1 ≤ n → ∀ k : Nat,k < 7 → 1 ≤ k → okN n k = true := by decide +kernel
set_option maxRecDepth 100000 in
theorem okW_dec : ∀ n : Nat,n < 5 → 1 ≤ n → ∀ k : Nat,k < 7 → 1 ≤ k → (asL n k).all (okW k) = true := by decide +kernel
set_option maxRecDepth 100000 in
theorem asc_dec : ∀ n : Nat,n < 5 → 1 ≤ n → ∀ k : Nat,k < 7 → 1 ≤ k → (asL n k).Pairwise fun a b => Sp.cmpL a b < 0 := by decide +kernel
theorem vec_dec : ∀ n : Nat,n < 5 → 1 ≤ n → ∀ k : Nat,k < 7 → 1 ≤ k → Sp.vecOk [onesL n] (firstL n k) 0 6 = true := by decide +kernel
end Go.Proofs.Ytlonaefihjdkpaa
