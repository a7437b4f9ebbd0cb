/- Moves,plain: a vector of a plane is a sum of two circuits that fit into it; Moves,plain: into each move a small one fits; Moves,plain: into each move one fits whose numbers are not great; Basic moves,plain: what is kept are the moves into which no other fits; Basic moves,plain: there are not many. -/
import Derived.Test.YtlonaefihjdkpaaAP
import Derived.Test.YtlonaefihjdkpaaTLP
namespace Go.Abs.Cir
abbrev V := Fin 4 → Int
theorem minRatio {v d : V} (hv : ∀ k,0 ≤ v k) : ∀ l : List (Fin 4),(∃ k ∈ l,0 < d k) → ∃ j ∈ l,0 < d j ∧ ∀ k ∈ l,0 < d k → v j * d k ≤ v k * d j
  | [],h => by obtain ⟨k,hk,_⟩ := h; cases hk
  | a :: l,h => by
    by_cases hl : ∃ k ∈ l,0 < d k
    · obtain ⟨j,hj,hdj,hmin⟩ := minRatio hv l hl
      by_cases ha : 0 < d a
      · by_cases hc : v a * d j ≤ v j * d a
        · refine ⟨a,by simp,ha,fun k hk hdk => ?_⟩
          rcases List.mem_cons.1 hk with rfl | hk
          · exact Int.le_refl _
          · have h1 := hmin k hk hdk
            -- v a d j ≤ v j d a; v j d k ≤ v k d j
            have h2 : v a * d k * d j ≤ v k * d a * d j := by
              have e1 := Int.mul_le_mul_of_nonneg_right hc (Int.le_of_lt hdk)
              have e2 := Int.mul_le_mul_of_nonneg_right h1 (Int.le_of_lt ha)
              have a1 : v a * d j * d k = v a * d k * d j := by rw [Int.mul_right_comm]
              have a2 : v j * d a * d k = v j * d k * d a := by rw [Int.mul_right_comm]
              have a3 : v k * d j * d a = v k * d a * d j := by rw [Int.mul_right_comm]
              omega
            exact Int.le_of_mul_le_mul_right h2 hdj
        · refine ⟨j,by simp [hj],hdj,fun k hk hdk => ?_⟩
          rcases List.mem_cons.1 hk with rfl | hk
          · omega
          · exact hmin k hk hdk
      · refine ⟨j,by simp [hj],hdj,fun k hk hdk => ?_⟩
        rcases List.mem_cons.1 hk with rfl | hk
        · exact absurd hdk ha
        · exact hmin k hk hdk
    · obtain ⟨k,hk,hdk⟩ := h
      rcases List.mem_cons.1 hk with rfl | hk
      · refine ⟨k,by simp,hdk,fun m hm hdm => ?_⟩
        rcases List.mem_cons.1 hm with rfl | hm
        · exact Int.le_refl _
        · exact absurd ⟨m,hm,hdm⟩ hl
      · exact absurd ⟨k,hk,hdk⟩ hl
theorem all4 (k : Fin 4) : k ∈ ([0,1,2,3] : List (Fin 4)) := by
  have : k = 0 ∨ k = 1 ∨ k = 2 ∨ k = 3 := by omega
  rcases this with rfl | rfl | rfl | rfl <;> simp
section
variable {K : V → Prop} {C : Fin 4 → V} {v : V}
structure Plane (K : V → Prop) (C : Fin 4 → V) : Prop where
  sub : ∀ x y a b,K x → K y → K fun k => a * x k - b * y k
  cir : ∀ j,K (C j)
  anti : ∀ i j,C i j = -C j i
  id : ∀ x,K x → ∀ i j k,C j i * x k = x i * C j k - x j * C i k
  ne : ∃ i j,C i j ≠ 0
def IsC (C : Fin 4 → V) (e : V) : Prop := ∃ j,∃ s : Int,(s = 1 ∨ s = -1) ∧ (∀ k,e k = s * C j k) ∧ ∃ k,e k ≠ 0
theorem take (h0 : ∀ k,0 ≤ v k) {d : V} (hs : ∀ k,v k = 0 → d k = 0) (hd : ∃ k,0 < d k) : ∃ j,0 < d j ∧ 0 < v j ∧ (∀ k,0 ≤ d j * v k - v j * d k) ∧ d j * v j - v j * d j = 0 := by
  obtain ⟨k0,hk0⟩ := hd
  obtain ⟨j,-,hdj,hmin⟩ := minRatio (d := d) h0 [0,1,2,3] ⟨k0,all4 k0,hk0⟩
  refine ⟨j,hdj,?_,fun k => ?_,by rw [Int.mul_comm]; omega⟩
  · by_cases h : v j = 0
    · have := hs j h; omega
    · have := h0 j; omega
  · by_cases hk : 0 < d k
    · have := hmin k (all4 k) hk
      have e : d j * v k = v k * d j := Int.mul_comm _ _
      omega
    · have e1 := Int.mul_nonneg (Int.le_of_lt hdj) (h0 k)
      have e2 := Int.mul_nonneg (h0 j) (show 0 ≤ -d k by omega)
      rw [Int.mul_neg] at e2
      omega
theorem Plane.along (P : Plane K C) {w : V} (hw : K w) (h0 : ∀ k,0 ≤ w k) {j : Fin 4} (hj : w j = 0) (hC : ∃ k,C j k ≠ 0) (hn : ∃ k,w k ≠ 0) : ∃ e q a,IsC C e ∧ 0 < q ∧ 0 < a ∧ (∀ k,0 ≤ e k) ∧ ∀ k,q * w k = a * e k := by
  obtain ⟨i,hi⟩ := hn
  have hi0 : 0 < w i := by have := h0 i; omega
  have key : ∀ k,C j i * w k = w i * C j k := fun k => by
    have := P.id w hw i j k
    rw [hj] at this
    simpa using this
  have hCi : C j i ≠ 0 := fun h => by
    obtain ⟨k,hk⟩ := hC
    have := key k
    rw [h,Int.zero_mul] at this
    rcases Int.mul_eq_zero.1 this.symm with h1 | h1
    · omega
    · exact hk h1
  by_cases hp : 0 < C j i
  · refine ⟨C j,C j i,w i,⟨j,1,.inl rfl,fun k => by omega,hC⟩,hp,hi0,fun k => ?_,key⟩
    have h1 := Int.mul_nonneg (Int.le_of_lt hp) (h0 k)
    rw [key k] at h1
    exact Int.nonneg_of_mul_nonneg_right h1 hi0 |> fun h => h
  · refine ⟨fun k => -C j k,-C j i,w i,⟨j,-1,.inr rfl,fun k => by show -C j k = -1 * C j k; omega,?_⟩,by omega,hi0,fun k => ?_,fun k => ?_⟩
    · obtain ⟨k,hk⟩ := hC; exact ⟨k,by show -C j k ≠ 0; omega⟩
    · have h1 := Int.mul_nonneg (show 0 ≤ -C j i by omega) (h0 k)
      have h2 : -C j i * w k = w i * -C j k := by rw [Int.neg_mul,Int.mul_neg,key k]
      rw [h2] at h1
      exact Int.nonneg_of_mul_nonneg_right h1 hi0
    · show -C j i * w k = w i * -C j k
      rw [Int.neg_mul,Int.mul_neg,key k]
theorem Plane.split (P : Plane K C) (hv : K v) (h0 : ∀ k,0 ≤ v k) (hn : ∃ k,v k ≠ 0) :
    ∃ e f q a b,IsC C e ∧ IsC C f ∧ 0 < q ∧ 0 ≤ a ∧ 0 ≤ b ∧ (∀ k,0 ≤ e k) ∧ (∀ k,0 ≤ f k) ∧ ∀ k,q * v k = a * e k + b * f k := by
  by_cases hz : ∃ j,v j = 0 ∧ ∃ k,C j k ≠ 0
  · obtain ⟨j,hj,hC⟩ := hz
    obtain ⟨e,q,a,he,hq,ha,hp,hk⟩ := P.along hv h0 hj hC hn
    exact ⟨e,e,q,a,0,he,he,hq,Int.le_of_lt ha,Int.le_refl _,hp,hp,fun k => by rw [hk k]; omega⟩
  have hz' : ∀ j,v j = 0 → ∀ k,C j k = 0 := fun j hj k => by
    by_cases h : C j k = 0
    · exact h
    · exact absurd ⟨j,hj,k,h⟩ hz
  have hsup : ∀ m k,v k = 0 → C m k = 0 := fun m k hk => by rw [P.anti,hz' k hk]; rfl
  -- some circuit that fits
  have first : ∃ e,IsC C e ∧ ∀ k,0 ≤ e k := by
    obtain ⟨m,k0,hmk⟩ := P.ne
    obtain ⟨d,hd,hdp⟩ : ∃ d : V,((∀ k,d k = C m k) ∨ ∀ k,d k = -C m k) ∧ 0 < d k0 := by
      by_cases h : 0 < C m k0
      · exact ⟨C m,.inl fun _ => rfl,h⟩
      · exact ⟨fun k => -C m k,.inr fun _ => rfl,by show 0 < -C m k0; omega⟩
    have hKd : K d := by
      rcases hd with h | h
      · rw [show d = C m from funext h]; exact P.cir m
      · have := P.sub (C m) (C m) 0 1 (P.cir m) (P.cir m)
        rwa [show (fun k => 0 * C m k - 1 * C m k) = d from funext fun k => by rw [h k]; omega] at this
    have hds : ∀ k,v k = 0 → d k = 0 := fun k hk => by
      rcases hd with h | h <;> simp [h k,hsup m k hk]
    obtain ⟨j,hdj,hvj,hw,hwj⟩ := take h0 hds ⟨k0,hdp⟩
    have hKw := P.sub v d (d j) (v j) hv hKd
    have hCj : ∃ k,C j k ≠ 0 := ⟨m,fun h => by
      have e1 := P.anti m j
      rw [h] at e1
      rcases hd with h | h <;> (have := h j; omega)⟩
    have hwn : ∃ k,d j * v k - v j * d k ≠ 0 := by
      refine ⟨m,fun h => ?_⟩
      have hmm : C m m = 0 := by have := P.anti m m; omega
      have hdm : d m = 0 := by rcases hd with h | h <;> simp [h m,hmm]
      rw [hdm,Int.mul_zero,Int.sub_zero] at h
      rcases Int.mul_eq_zero.1 h with h1 | h1
      · omega
      · exact hmk (hz' m h1 k0)
    obtain ⟨e,q,a,he,-,-,hp,-⟩ := P.along hKw hw hwj hCj hwn
    exact ⟨e,he,hp⟩
  obtain ⟨e,he,hep⟩ := first
  obtain ⟨m,s,hs,hem,k0,hk0⟩ := he
  have hKe : K e := by
    have := P.sub (C m) (C m) s 0 (P.cir m) (P.cir m)
    rwa [show (fun k => s * C m k - 0 * C m k) = e from funext fun k => by rw [hem k]; omega] at this
  have hes : ∀ k,v k = 0 → e k = 0 := fun k hk => by rw [hem k,hsup m k hk,Int.mul_zero]
  obtain ⟨j,hej,hvj,hw,hwj⟩ := take h0 hes ⟨k0,by have := hep k0; omega⟩
  have hKw := P.sub v e (e j) (v j) hv hKe
  have hIe : IsC C e := ⟨m,s,hs,hem,k0,hk0⟩
  by_cases hwn : ∃ k,e j * v k - v j * e k ≠ 0
  · have hCj : ∃ k,C j k ≠ 0 := ⟨m,fun h => by
      have e1 := P.anti m j
      rw [h] at e1
      have := hem j
      rw [e1,show -(0 : Int) = 0 from rfl,Int.mul_zero] at this
      omega⟩
    obtain ⟨f,q,b,hf,hq,hb,hfp,hk⟩ := P.along hKw hw hwj hCj hwn
    refine ⟨e,f,q * e j,q * v j,b,hIe,hf,Int.mul_pos hq hej,Int.mul_nonneg (Int.le_of_lt hq) (h0 j),Int.le_of_lt hb,hep,hfp,fun k => ?_⟩
    have := hk k
    rw [Int.mul_sub] at this
    rw [Int.mul_assoc,Int.mul_assoc]; omega
  · refine ⟨e,e,e j,v j,0,hIe,hIe,hej,h0 j,Int.le_refl _,hep,hep,fun k => ?_⟩
    have : e j * v k - v j * e k = 0 := by
      by_cases h : e j * v k - v j * e k = 0
      · exact h
      · exact absurd ⟨k,h⟩ hwn
    omega
theorem fit_or {v e f : V} {q a b B : Int} (hq : 0 < q) (ha : 0 ≤ a) (hb : 0 ≤ b) (he : ∀ k,0 ≤ e k) (hf : ∀ k,0 ≤ f k) (hk : ∀ k,q * v k = a * e k + b * f k) (hB : ∀ k,e k ≤ B ∧ f k ≤ B) : (∀ k,e k ≤ v k) ∨ (∀ k,f k ≤ v k) ∨ ∀ k,v k ≤ 2 * B := by
  by_cases h1 : q ≤ a
  · refine .inl fun k => Int.le_of_mul_le_mul_left ?_ hq
    have e1 := Int.mul_le_mul_of_nonneg_right h1 (he k)
    have e2 := Int.mul_nonneg hb (hf k)
    have := hk k
    omega
  by_cases h2 : q ≤ b
  · refine .inr (.inl fun k => Int.le_of_mul_le_mul_left ?_ hq)
    have e1 := Int.mul_le_mul_of_nonneg_right h2 (hf k)
    have e2 := Int.mul_nonneg ha (he k)
    have := hk k
    omega
  · refine .inr (.inr fun k => Int.le_of_mul_le_mul_left (a := q) ?_ hq)
    have e1 := Int.mul_le_mul_of_nonneg_right (show a ≤ q by omega) (he k)
    have e2 := Int.mul_le_mul_of_nonneg_right (show b ≤ q by omega) (hf k)
    have e3 := Int.mul_le_mul_of_nonneg_left (hB k).1 (Int.le_of_lt hq)
    have e4 := Int.mul_le_mul_of_nonneg_left (hB k).2 (Int.le_of_lt hq)
    have e5 : q * (2 * B) = q * B + q * B := by rw [Int.two_mul,Int.mul_add]
    have := hk k
    omega
end
end Go.Abs.Cir
namespace Go.Abs.Sp
open Go.Abs.Cir
def fnV (x : List Int) : V := fun k => x.getD k.val 0
def L4 (u : V) : List Int := [u 0,u 1,u 2,u 3]
theorem fnV_L4 (u : V) (k : Fin 4) : fnV (L4 u) k = u k := by
  have : k = 0 ∨ k = 1 ∨ k = 2 ∨ k = 3 := by omega
  rcases this with rfl | rfl | rfl | rfl <;> rfl
def dot4 (r x : V) : Int := r 0 * x 0 + r 1 * x 1 + r 2 * x 2 + r 3 * x 3
theorem dp_fn {r x : List Int} (hr : r.length = 4) (hx : x.length = 4) : dp r x = dot4 (fnV r) (fnV x) := by
  match r,hr,x,hx with
  | [a,b,c,d],_,[e,f,g,h],_ => show a * e + (b * f + (c * g + (d * h + 0))) = a * e + b * f + c * g + d * h; omega
theorem fitR_iff : ∀ {x y : List Int},x.length = y.length → (fitR x y = true ↔ ∀ k,(0 < x.getD k 0 → x.getD k 0 ≤ y.getD k 0) ∧ (x.getD k 0 < 0 → y.getD k 0 ≤ x.getD k 0))
  | [],[],_ => by simp [fitR]
  | [],_ :: _,h => by simp at h
  | _ :: _,[],h => by simp at h
  | a :: x,b :: y,h => by
    have ih := fitR_iff (x := x) (y := y) (by simpa using h)
    unfold fitR
    constructor
    · intro hf
      split at hf
      · cases hf
      · rename_i hn
        have hn : ¬ ((0 < a ∧ b < a) ∨ (a < 0 ∧ a < b)) := by simpa using hn
        intro k
        cases k with
        | zero => simp; omega
        | succ k => simpa using ih.1 hf k
    · intro hk
      have h0 := hk 0
      simp at h0
      rw [if_neg (by simp; omega)]
      exact ih.2 fun k => by simpa using hk (k + 1)
theorem fitR_of {x y : List Int} (hx : x.length = 4) (hy : y.length = 4) (h : ∀ k : Fin 4,(0 < fnV x k → fnV x k ≤ fnV y k) ∧ (fnV x k < 0 → fnV y k ≤ fnV x k)) : fitR x y = true := by
  rw [fitR_iff (by omega)]
  intro k
  by_cases hk : k < 4
  · exact h ⟨k,hk⟩
  · rw [List.getD_eq_getElem?_getD,List.getElem?_eq_none (by omega)]; simp
structure Mv (rows : List (List Int)) (n : Nat) (x : List Int) : Prop where
  len : x.length = 4
  pad : ∀ j,n ≤ j → x.getD j 0 = 0
  ne : x ≠ z4
  mv : moveB rows x = true
theorem ne_z4 {x : List Int} (h : x.length = 4) : x ≠ z4 ↔ ∃ k : Fin 4,fnV x k ≠ 0 := by
  match x,h with
  | [a,b,c,d],_ =>
    constructor
    · intro hne
      by_cases h0 : a = 0
      · by_cases h1 : b = 0
        · by_cases h2 : c = 0
          · refine ⟨3,fun h3 => hne ?_⟩
            have h3 : d = 0 := h3
            rw [h0,h1,h2,h3]; rfl
          · exact ⟨2,h2⟩
        · exact ⟨1,h1⟩
      · exact ⟨0,h0⟩
    · rintro ⟨k,hk⟩ he
      rw [he] at hk
      have : k = 0 ∨ k = 1 ∨ k = 2 ∨ k = 3 := by omega
      rcases this with rfl | rfl | rfl | rfl <;> exact hk rfl
def sgnV (v : V) : V := fun k => if v k < 0 then -1 else 1
theorem sgn_sq (v : V) (k : Fin 4) : sgnV v k * sgnV v k = 1 := by unfold sgnV; split <;> rfl
theorem sgn_nn (v : V) (k : Fin 4) : 0 ≤ sgnV v k * v k := by unfold sgnV; split <;> omega
theorem sgn_bnd {r : V} {B : Int} (v : V) (k : Fin 4) (h : -B ≤ r k ∧ r k ≤ B) : -B ≤ sgnV v k * r k ∧ sgnV v k * r k ≤ B := by unfold sgnV; split <;> omega
theorem dot4_sgn (r v x : V) : dot4 r (fun k => sgnV v k * x k) = dot4 (fun k => sgnV v k * r k) x := by
  unfold dot4
  have e : ∀ k,r k * (sgnV v k * x k) = sgnV v k * r k * x k := fun k => by rw [← Int.mul_assoc,Int.mul_comm (r k)]
  rw [e,e,e,e]
theorem within {v : List Int} (hv : v.length = 4) {u : V} (hu : ∀ k,0 ≤ u k ∧ u k ≤ sgnV (fnV v) k * fnV v k) : fitR (L4 fun k => sgnV (fnV v) k * u k) v = true := by
  refine fitR_of rfl hv fun k => ?_
  rw [fnV_L4]
  have := hu k
  unfold sgnV at this ⊢
  split <;> (rename_i h; simp only [h,if_true,if_false] at this; omega)
theorem inB_L4 {M : Int} {u : V} (h : ∀ k,-M ≤ u k ∧ u k ≤ M) : inB M (L4 u) := fun a ha => by
  simp only [L4,List.mem_cons,List.not_mem_nil,or_false] at ha
  rcases ha with rfl | rfl | rfl | rfl
  · exact h 0
  · exact h 1
  · exact h 2
  · exact h 3
def circ (r s : V) : Fin 4 → V := fun j k =>
  match j,k with
  | 0,0 => 0
  | 0,1 => r 2 * s 3 - r 3 * s 2
  | 0,2 => -(r 1 * s 3 - r 3 * s 1)
  | 0,3 => r 1 * s 2 - r 2 * s 1
  | 1,0 => -(r 2 * s 3 - r 3 * s 2)
  | 1,1 => 0
  | 1,2 => r 0 * s 3 - r 3 * s 0
  | 1,3 => -(r 0 * s 2 - r 2 * s 0)
  | 2,0 => r 1 * s 3 - r 3 * s 1
  | 2,1 => -(r 0 * s 3 - r 3 * s 0)
  | 2,2 => 0
  | 2,3 => r 0 * s 1 - r 1 * s 0
  | 3,0 => -(r 1 * s 2 - r 2 * s 1)
  | 3,1 => r 0 * s 2 - r 2 * s 0
  | 3,2 => -(r 0 * s 1 - r 1 * s 0)
  | 3,3 => 0
theorem four {P : Fin 4 → Prop} (h0 : P 0) (h1 : P 1) (h2 : P 2) (h3 : P 3) (k : Fin 4) : P k := by
  have : k = 0 ∨ k = 1 ∨ k = 2 ∨ k = 3 := by omega
  rcases this with rfl | rfl | rfl | rfl
  · exact h0
  · exact h1
  · exact h2
  · exact h3
theorem plane (r s : V) (hne : ∃ i j,circ r s i j ≠ 0) : Plane (fun x => dot4 r x = 0 ∧ dot4 s x = 0) (circ r s) := by
  refine ⟨fun x y a b hx hy => ?_,fun j => ?_,fun i j => ?_,fun x hx i j k => ?_,hne⟩
  · obtain ⟨x1,x2⟩ := hx
    obtain ⟨y1,y2⟩ := hy
    unfold dot4 at *
    constructor <;> grind
  · refine four (P := fun j => dot4 r (circ r s j) = 0 ∧ dot4 s (circ r s j) = 0) ?_ ?_ ?_ ?_ j <;> (simp only [dot4,circ]; constructor <;> grind)
  · refine four (P := fun i => circ r s i j = -circ r s j i) ?_ ?_ ?_ ?_ i <;> (refine four (P := fun j => circ r s _ j = -circ r s j _) ?_ ?_ ?_ ?_ j <;> (simp only [circ] <;> omega))
  · obtain ⟨x1,x2⟩ := hx
    unfold dot4 at x1 x2
    refine four (P := fun i => circ r s j i * x k = x i * circ r s j k - x j * circ r s i k) ?_ ?_ ?_ ?_ i <;> (refine four (P := fun j => circ r s j _ * x k = x _ * circ r s j k - x j * circ r s _ k) ?_ ?_ ?_ ?_ j <;> (refine four (P := fun k => circ r s _ _ * x k = x _ * circ r s _ k - x _ * circ r s _ k) ?_ ?_ ?_ ?_ k <;> (simp only [circ]; grind)))
theorem dot4_one (r : V) (i : Fin 4) (α : Int) : dot4 r (fun k => if k = i then α else 0) = r i * α := by
  refine four (P := fun i => dot4 r (fun k => if k = i then α else 0) = r i * α) ?_ ?_ ?_ ?_ i <;> simp [dot4]
theorem dot4_two (r : V) {i j : Fin 4} (h : i ≠ j) (α β : Int) : dot4 r (fun k => if k = i then α else if k = j then β else 0) = r i * α + r j * β := by
  revert h
  refine four (P := fun i => i ≠ j → dot4 r (fun k => if k = i then α else if k = j then β else 0) = r i * α + r j * β) ?_ ?_ ?_ ?_ i <;>
    (refine four (P := fun j => _ ≠ j → dot4 r (fun k => if k = _ then α else if k = j then β else 0) = r _ * α + r j * β) ?_ ?_ ?_ ?_ j <;> (intro h; first | exact absurd rfl h | (simp [dot4] <;> omega)))
theorem dot4_three (r : V) {i j l : Fin 4} (h : i ≠ j) (h2 : i ≠ l) (h3 : j ≠ l) (α β γ : Int) : dot4 r (fun k => if k = i then α else if k = j then β else if k = l then γ else 0) = r i * α + r j * β + r l * γ := by
  revert h h2 h3
  refine four (P := fun i => i ≠ j → i ≠ l → j ≠ l → dot4 r (fun k => if k = i then α else if k = j then β else if k = l then γ else 0) = r i * α + r j * β + r l * γ) ?_ ?_ ?_ ?_ i <;>
    (refine four (P := fun j => _ ≠ j → _ ≠ l → j ≠ l → dot4 r (fun k => if k = _ then α else if k = j then β else if k = l then γ else 0) = r _ * α + r j * β + r l * γ) ?_ ?_ ?_ ?_ j <;>
      (refine four (P := fun l => _ ≠ _ → _ ≠ l → _ ≠ l → dot4 r (fun k => if k = _ then α else if k = _ then β else if k = l then γ else 0) = r _ * α + r _ * β + r l * γ) ?_ ?_ ?_ ?_ l <;> (intro h h2 h3; first | exact absurd rfl h | exact absurd rfl h2 | exact absurd rfl h3 | (simp [dot4] <;> omega))))
theorem dot4_ge (r v : V) (i : Fin 4) (h : ∀ k,k ≠ i → 0 ≤ r k * v k) : r i * v i ≤ dot4 r v := by
  have h0 := h 0
  have h1 := h 1
  have h2 := h 2
  have h3 := h 3
  unfold dot4
  refine four (P := fun i => (0 ≠ i → 0 ≤ r 0 * v 0) → (1 ≠ i → 0 ≤ r 1 * v 1) → (2 ≠ i → 0 ≤ r 2 * v 2) → (3 ≠ i → 0 ≤ r 3 * v 3) → r i * v i ≤ r 0 * v 0 + r 1 * v 1 + r 2 * v 2 + r 3 * v 3) ?_ ?_ ?_ ?_ i h0 h1 h2 h3 <;> (intro a b c d; simp at a b c d; omega)
theorem dot4_ge2 (r v : V) {i j : Fin 4} (hij : i ≠ j) (h : ∀ k,k ≠ i → k ≠ j → 0 ≤ r k * v k) : r i * v i + r j * v j ≤ dot4 r v := by
  have h0 := h 0
  have h1 := h 1
  have h2 := h 2
  have h3 := h 3
  unfold dot4
  revert hij h0 h1 h2 h3
  refine four (P := fun i => i ≠ j → (0 ≠ i → 0 ≠ j → 0 ≤ r 0 * v 0) → (1 ≠ i → 1 ≠ j → 0 ≤ r 1 * v 1) → (2 ≠ i → 2 ≠ j → 0 ≤ r 2 * v 2) → (3 ≠ i → 3 ≠ j → 0 ≤ r 3 * v 3) → r i * v i + r j * v j ≤ r 0 * v 0 + r 1 * v 1 + r 2 * v 2 + r 3 * v 3) ?_ ?_ ?_ ?_ i <;>
    (refine four (P := fun j => _ ≠ j → (0 ≠ _ → 0 ≠ j → 0 ≤ r 0 * v 0) → (1 ≠ _ → 1 ≠ j → 0 ≤ r 1 * v 1) → (2 ≠ _ → 2 ≠ j → 0 ≤ r 2 * v 2) → (3 ≠ _ → 3 ≠ j → 0 ≤ r 3 * v 3) → r _ * v _ + r j * v j ≤ r 0 * v 0 + r 1 * v 1 + r 2 * v 2 + r 3 * v 3) ?_ ?_ ?_ ?_ j <;> (intro hh a b c d; first | exact absurd rfl hh | (simp at a b c d; omega)))
theorem dot4_neg (r v : V) : dot4 (fun k => -r k) v = -dot4 r v := by
  unfold dot4
  simp only [Int.neg_mul]; omega
def Small1 (r v : V) : Prop := ∃ u : V,(∀ k,0 ≤ u k ∧ u k ≤ v k ∧ u k ≤ 2) ∧ (∃ k,u k ≠ 0) ∧ dot4 r u = 0
theorem Small1.neg {r v : V} (h : Small1 (fun k => -r k) v) : Small1 r v := by
  obtain ⟨u,h1,h2,h3⟩ := h
  exact ⟨u,h1,h2,by rw [dot4_neg] at h3; omega⟩
theorem small1_two {r v : V} {i j : Fin 4} (hr : ∀ k,-2 ≤ r k ∧ r k ≤ 2) (h0 : ∀ k,0 ≤ v k) (hs : dot4 r v = 0) (hi : 0 < r i) (hvi : 0 < v i) (hj : r j < 0) (hvj : 0 < v j) (h21 : r i = 2 → r j = -1 → Small1 r v) (h12 : r i = 1 → r j = -2 → Small1 r v) : Small1 r v := by
  have hij : i ≠ j := fun e => by rw [e] at hi; omega
  by_cases he : r i = -r j
  · refine ⟨fun k => if k = i then 1 else if k = j then 1 else 0,fun k => ?_,⟨i,by simp⟩,by rw [dot4_two r hij]; omega⟩
    dsimp only
    split
    · rename_i e; subst e; omega
    · split
      · rename_i e; subst e; omega
      · have := h0 k; omega
  · have hi2 := hr i
    have hj2 := hr j
    rcases (show (r i = 2 ∧ r j = -1) ∨ (r i = 1 ∧ r j = -2) by omega) with ⟨h1,h2⟩ | ⟨h1,h2⟩
    · exact h21 h1 h2
    · exact h12 h1 h2
theorem small1_21 {r v : V} {i j : Fin 4} (hr : ∀ k,-2 ≤ r k ∧ r k ≤ 2) (h0 : ∀ k,0 ≤ v k) (hs : dot4 r v = 0) (hi : r i = 2) (hvi : 0 < v i) (hj : r j = -1) (hvj : 0 < v j) : Small1 r v := by
  have hij : i ≠ j := fun e => by rw [e] at hi; omega
  by_cases h2 : 2 ≤ v j
  · refine ⟨fun k => if k = i then 1 else if k = j then 2 else 0,fun k => ?_,⟨i,by simp⟩,by rw [dot4_two r hij,hi,hj]; rfl⟩
    dsimp only
    split
    · rename_i e; subst e; omega
    · split
      · rename_i e; subst e; omega
      · have := h0 k; omega
  by_cases hl : ∃ l,l ≠ j ∧ r l < 0 ∧ 0 < v l
  · obtain ⟨l,hlj,hrl,hvl⟩ := hl
    have hil : i ≠ l := fun e => by rw [e] at hi; omega
    have hl2 := hr l
    rcases (show r l = -2 ∨ r l = -1 by omega) with h3 | h3
    · refine ⟨fun k => if k = i then 1 else if k = l then 1 else 0,fun k => ?_,⟨i,by simp⟩,by rw [dot4_two r hil,hi,h3]; rfl⟩
      dsimp only
      split
      · rename_i e; subst e; omega
      · split
        · rename_i e; subst e; omega
        · have := h0 k; omega
    · refine ⟨fun k => if k = i then 1 else if k = j then 1 else if k = l then 1 else 0,fun k => ?_,⟨i,by simp⟩,by rw [dot4_three r hij hil (Ne.symm hlj),hi,hj,h3]; rfl⟩
      dsimp only
      split
      · rename_i e; subst e; omega
      · split
        · rename_i e; subst e; omega
        · split
          · rename_i e; subst e; omega
          · have := h0 k; omega
  · have := dot4_ge2 r v hij fun k _ hkj => by
      by_cases hk : 0 ≤ r k
      · exact Int.mul_nonneg hk (h0 k)
      · have hvk : v k = 0 := by
          by_cases hvk : 0 < v k
          · exact absurd ⟨k,hkj,by omega,hvk⟩ hl
          · have := h0 k; omega
        rw [hvk,Int.mul_zero]; exact Int.le_refl _
    rw [hs,hi,hj] at this
    omega
theorem small1_pos {r v : V} {i : Fin 4} (hr : ∀ k,-2 ≤ r k ∧ r k ≤ 2) (h0 : ∀ k,0 ≤ v k) (hs : dot4 r v = 0) (hi : 0 < r i) (hvi : 0 < v i) : Small1 r v := by
  by_cases hj : ∃ j,r j < 0 ∧ 0 < v j
  · obtain ⟨j,hrj,hvj⟩ := hj
    refine small1_two hr h0 hs hi hvi hrj hvj (fun h1 h2 => small1_21 hr h0 hs h1 hvi h2 hvj) fun h1 h2 => ?_
    exact Small1.neg (small1_21 (fun k => by have := hr k; show -2 ≤ -r k ∧ -r k ≤ 2; omega) h0 (by rw [dot4_neg,hs]; rfl) (i := j) (j := i) (by show -r j = 2; omega) hvj (by show -r i = -1; omega) hvi)
  · have := dot4_ge r v i fun k _ => by
      by_cases hk : 0 ≤ r k
      · exact Int.mul_nonneg hk (h0 k)
      · have hvk : v k = 0 := by
          by_cases hvk : 0 < v k
          · exact absurd ⟨k,by omega,hvk⟩ hj
          · have := h0 k; omega
        rw [hvk,Int.mul_zero]; exact Int.le_refl _
    have h2 := Int.mul_pos hi hvi
    omega
theorem small1 {r v : V} (hr : ∀ k,-2 ≤ r k ∧ r k ≤ 2) (h0 : ∀ k,0 ≤ v k) (hn : ∃ k,v k ≠ 0) (hs : dot4 r v = 0) : Small1 r v := by
  obtain ⟨i,hi⟩ := hn
  have hvi : 0 < v i := by have := h0 i; omega
  by_cases hz : r i = 0
  · refine ⟨fun k => if k = i then 1 else 0,fun k => ?_,⟨i,by simp⟩,by rw [dot4_one,hz]; rfl⟩
    dsimp only
    split
    · rename_i e; subst e; omega
    · have := h0 k; omega
  by_cases hp : 0 < r i
  · exact small1_pos hr h0 hs hp hvi
  · exact Small1.neg (small1_pos (fun k => by have := hr k; show -2 ≤ -r k ∧ -r k ≤ 2; omega) h0 (by rw [dot4_neg,hs]; rfl) (i := i) (by show 0 < -r i; omega) hvi)
end Go.Abs.Sp
namespace Go.Abs.Sp
open Go.Abs.Cir
def rk (rows : List (List Int)) : Nat := match rows.filter (fun r => !(r == z4)) with
  | [] => 0
  | [_] => 1
  | a :: b :: _ => if (minors a b).all (fun d => !(d != 0)) then 1 else 2
theorem mostOf_rk (rows : List (List Int)) : mostOf rows = if rk rows = 0 then 1 else if rk rows = 1 then 3 else 16 := by
  unfold mostOf rk
  generalize rows.filter (fun r => !(r == z4)) = F
  match F with
  | [] => rfl
  | [_] => rfl
  | a :: b :: _ => dsimp only; split <;> rfl
def bnd (rows : List (List Int)) (n : Nat) : Int := if rk rows = 0 then 1 else if rk rows = 1 then 2 else if n = 4 then 16 else 8
theorem moveB_iff {rows : List (List Int)} (hr : ∀ r ∈ rows,r.length = 4) {x : List Int} (hx : x.length = 4) : moveB rows x = true ↔ ∀ r ∈ rows,dot4 (fnV r) (fnV x) = 0 := by
  unfold moveB
  rw [List.all_eq_true]
  exact ⟨fun h r hm => by rw [← dp_fn (hr r hm) hx]; simpa using h r hm,fun h r hm => by rw [dp_fn (hr r hm) hx,h r hm]; rfl⟩
theorem moveB_L4 {rows : List (List Int)} (hr : ∀ r ∈ rows,r.length = 4) {u : V} : moveB rows (L4 u) = true ↔ ∀ r ∈ rows,dot4 (fnV r) u = 0 := by
  rw [moveB_iff hr rfl]
  have : fnV (L4 u) = u := funext fun k => fnV_L4 u k
  rw [this]
theorem sgnV_sgnV (v x : V) : (fun k => sgnV v k * (sgnV v k * x k)) = x := funext fun k => by rw [← Int.mul_assoc,sgn_sq,Int.one_mul]
section
variable {rows : List (List Int)} {n : Nat} {v : List Int}
theorem Mv.nn (_ : Mv rows n v) : ∀ k,0 ≤ sgnV (fnV v) k * fnV v k := sgn_nn _
theorem sgn_ne {v : V} {k : Fin 4} : sgnV v k * v k ≠ 0 ↔ v k ≠ 0 := by unfold sgnV; split <;> omega
theorem Mv.nz (h : Mv rows n v) : ∃ k,sgnV (fnV v) k * fnV v k ≠ 0 := by
  obtain ⟨k,hk⟩ := (ne_z4 h.len).1 h.ne
  exact ⟨k,sgn_ne.2 hk⟩
theorem Mv.bal (h : Mv rows n v) (hr : ∀ r ∈ rows,r.length = 4) {r : List Int} (hm : r ∈ rows) : dot4 (fun k => sgnV (fnV v) k * fnV r k) (fun k => sgnV (fnV v) k * fnV v k) = 0 := by
  rw [← dot4_sgn,sgnV_sgnV]
  exact (moveB_iff hr h.len).1 h.mv r hm
theorem Mv.wrap (h : Mv rows n v) (hr : ∀ r ∈ rows,r.length = 4) {B : Int} {u : V} (hu : ∀ k,0 ≤ u k ∧ u k ≤ sgnV (fnV v) k * fnV v k ∧ u k ≤ B) (hn : ∃ k,u k ≠ 0) (hm : ∀ r ∈ rows,dot4 (fun k => sgnV (fnV v) k * fnV r k) u = 0) :
    ∃ w,Mv rows n w ∧ fitR w v = true ∧ inB B w := by
  refine ⟨L4 fun k => sgnV (fnV v) k * u k,⟨rfl,fun j hj => ?_,?_,?_⟩,within h.len fun k => ⟨(hu k).1,(hu k).2.1⟩,inB_L4 fun k => ?_⟩
  · by_cases hj4 : j < 4
    · have e : (L4 fun k => sgnV (fnV v) k * u k).getD j 0 = sgnV (fnV v) ⟨j,hj4⟩ * u ⟨j,hj4⟩ := fnV_L4 (fun k => sgnV (fnV v) k * u k) ⟨j,hj4⟩
      have h0 : fnV v ⟨j,hj4⟩ = 0 := h.pad j hj
      have := hu ⟨j,hj4⟩
      rw [h0,Int.mul_zero] at this
      rw [e,show u ⟨j,hj4⟩ = 0 by omega,Int.mul_zero]
    · rw [List.getD_eq_getElem?_getD,List.getElem?_eq_none (by simp [L4]; omega)]; rfl
  · rw [ne_z4 rfl]
    obtain ⟨k,hk⟩ := hn
    refine ⟨k,?_⟩
    rw [fnV_L4]
    unfold sgnV
    split <;> omega
  · rw [moveB_L4 hr]
    intro r hrm
    rw [dot4_sgn]
    exact hm r hrm
  · have := hu k
    unfold sgnV
    split <;> omega
theorem circ_sgn (σ r s : V) (hσ : ∀ k,σ k * σ k = 1) {i j : Fin 4} (h : circ r s i j ≠ 0) : circ (fun k => σ k * r k) (fun k => σ k * s k) i j ≠ 0 := by
  intro h0
  apply h
  have h00 := hσ 0
  have h11 := hσ 1
  have h22 := hσ 2
  have h33 := hσ 3
  revert h0
  refine four (P := fun i => circ (fun k => σ k * r k) (fun k => σ k * s k) i j = 0 → circ r s i j = 0) ?_ ?_ ?_ ?_ i <;> (refine four (P := fun j => circ (fun k => σ k * r k) (fun k => σ k * s k) _ j = 0 → circ r s _ j = 0) ?_ ?_ ?_ ?_ j <;> (simp only [circ]; intro h0; grind))
theorem circ_bound {r s : V} (hr : ∀ k,-2 ≤ r k ∧ r k ≤ 2) (hs : ∀ k,-2 ≤ s k ∧ s k ≤ 2) (i j : Fin 4) : -8 ≤ circ r s i j ∧ circ r s i j ≤ 8 := by
  have b : ∀ i j : Fin 4,-8 ≤ r i * s j - r j * s i ∧ r i * s j - r j * s i ≤ 8 := fun i j => by
    have h1 := mul_bound (hr i).1 (hr i).2 (hs j).1 (hs j).2
    have h2 := mul_bound (hr j).1 (hr j).2 (hs i).1 (hs i).2
    omega
  have b01 := b 0 1
  have b02 := b 0 2
  have b03 := b 0 3
  have b12 := b 1 2
  have b13 := b 1 3
  have b23 := b 2 3
  refine four (P := fun i => -8 ≤ circ r s i j ∧ circ r s i j ≤ 8) ?_ ?_ ?_ ?_ i <;> (refine four (P := fun j => -8 ≤ circ r s _ j ∧ circ r s _ j ≤ 8) ?_ ?_ ?_ ?_ j <;> (simp only [circ]; omega))
theorem IsC.bound {r s e : V} (hr : ∀ k,-2 ≤ r k ∧ r k ≤ 2) (hs : ∀ k,-2 ≤ s k ∧ s k ≤ 2) (he : IsC (circ r s) e) (k : Fin 4) : -8 ≤ e k ∧ e k ≤ 8 := by
  obtain ⟨j,t,ht,hk,-⟩ := he
  have := circ_bound hr hs j k
  rw [hk k]
  rcases ht with rfl | rfl <;> omega
theorem IsC.mem {K : V → Prop} {C : Fin 4 → V} (P : Plane K C) {e : V} (he : IsC C e) : K e := by
  obtain ⟨j,s,hs,hk,-⟩ := he
  have := P.sub (C j) (C j) s 0 (P.cir j) (P.cir j)
  rwa [show (fun k => s * C j k - 0 * C j k) = e from funext fun k => by rw [hk k]; omega] at this
end
theorem two_rows {rows : List (List Int)} (h2 : rows.length ≤ 2) {a b : List Int} {t : List (List Int)} (h : rows.filter (fun r => !(r == z4)) = a :: b :: t) : rows = [a,b] := by
  have hl := List.length_filter_le (fun r => !(r == z4)) rows
  rw [h] at hl
  simp at hl
  have ht : t = [] := List.eq_nil_of_length_eq_zero (by omega)
  subst ht
  have : rows.filter (fun r => !(r == z4)) = rows := List.filter_sublist.eq_of_length (by rw [h]; simp; omega)
  rw [this] at h
  exact h
theorem minors_all {a b : List Int} (h : (minors a b).all (fun d => !(d != 0)) = true) (i j : Fin 4) : fnV a i * fnV b j = fnV a j * fnV b i := by
  have key : ∀ i j : Nat,i < j → j < 4 → a.getD i 0 * b.getD j 0 - a.getD j 0 * b.getD i 0 = 0 := fun i j hij hj => by
    have := List.all_eq_true.1 h (a.getD i 0 * b.getD j 0 - a.getD j 0 * b.getD i 0) (by
      unfold minors
      exact List.mem_flatMap.2 ⟨j,List.mem_range.2 hj,List.mem_map.2 ⟨i,List.mem_range.2 hij,rfl⟩⟩)
    simpa using this
  unfold fnV
  rcases Nat.lt_trichotomy i.val j.val with hl | he | hg
  · have := key i j hl j.2; omega
  · rw [he]
  · have := key j i hg i.2; omega
theorem minors_some {a b : List Int} (h : (minors a b).all (fun d => !(d != 0)) = false) : ∃ i j,circ (fnV a) (fnV b) i j ≠ 0 := by
  obtain ⟨d,hd,hne⟩ := List.all_eq_false.1 h
  have hne : d ≠ 0 := by simpa using hne
  unfold minors at hd
  obtain ⟨j,hj,hd⟩ := List.mem_flatMap.1 hd
  obtain ⟨i,hi,rfl⟩ := List.mem_map.1 hd
  have hj := List.mem_range.1 hj
  have hi := List.mem_range.1 hi
  rcases (show (i = 0 ∧ j = 1) ∨ (i = 0 ∧ j = 2) ∨ (i = 0 ∧ j = 3) ∨ (i = 1 ∧ j = 2) ∨ (i = 1 ∧ j = 3) ∨ (i = 2 ∧ j = 3) by omega) with ⟨rfl,rfl⟩ | ⟨rfl,rfl⟩ | ⟨rfl,rfl⟩ | ⟨rfl,rfl⟩ | ⟨rfl,rfl⟩ | ⟨rfl,rfl⟩
  · exact ⟨2,3,hne⟩
  · exact ⟨1,3,fun h => hne (by have h : -(fnV a 0 * fnV b 2 - fnV a 2 * fnV b 0) = 0 := h; exact (by omega : fnV a 0 * fnV b 2 - fnV a 2 * fnV b 0 = 0))⟩
  · exact ⟨1,2,hne⟩
  · exact ⟨0,3,hne⟩
  · exact ⟨0,2,fun h => hne (by have h : -(fnV a 1 * fnV b 3 - fnV a 3 * fnV b 1) = 0 := h; exact (by omega : fnV a 1 * fnV b 3 - fnV a 3 * fnV b 1 = 0))⟩
  · exact ⟨0,1,hne⟩
theorem inB_fn {r : List Int} (h : inB 2 r) (k : Fin 4) : -2 ≤ fnV r k ∧ fnV r k ≤ 2 := inB_getD h k.val
theorem small {rows : List (List Int)} {n : Nat} (hr : Rows4 rows) (hpad : ∀ r ∈ rows,∀ j,n ≤ j → r.getD j 0 = 0) (hn : n ≤ 4) {v : List Int} (hv : Mv rows n v) : ∃ u,Mv rows n u ∧ fitR u v = true ∧ inB (bnd rows n) u := by
  obtain ⟨F,hF⟩ : ∃ F,F = rows.filter (fun r => !(r == z4)) := ⟨_,rfl⟩
  have out : ∀ r ∈ rows,r ∉ F → r = z4 := fun r hm hn => by
    rw [hF] at hn
    by_cases h : r = z4
    · exact h
    · exact absurd (List.mem_filter.2 ⟨hm,by simpa using h⟩) hn
  have zero : ∀ u : V,dot4 (fun k => sgnV (fnV v) k * fnV z4 k) u = 0 := fun u => by
    have e : ∀ k,fnV z4 k = 0 := four (P := fun k => fnV z4 k = 0) rfl rfl rfl rfl
    unfold dot4
    simp [e]
  match hF' : F with
  | [] =>
    have hrk : bnd rows n = 1 := by unfold bnd rk; rw [← hF]; rfl
    rw [hrk]
    obtain ⟨k,hk⟩ := hv.nz
    have hk0 := hv.nn k
    refine hv.wrap hr.len (u := fun j => if j = k then 1 else 0) (fun j => ?_) ⟨k,by simp⟩ fun r hm => ?_
    · have := hv.nn j
      show 0 ≤ (if j = k then (1:Int) else 0) ∧ (if j = k then (1:Int) else 0) ≤ _ ∧ (if j = k then (1:Int) else 0) ≤ 1
      split
      · rename_i e; subst e; omega
      · omega
    · rw [out r hm (by simp)]; exact zero _
  | [r] =>
    have hrk : bnd rows n = 2 := by unfold bnd rk; rw [← hF]; rfl
    rw [hrk]
    have hrm : r ∈ rows := (List.mem_filter.1 (by rw [← hF]; simp : r ∈ rows.filter _)).1
    obtain ⟨u,h1,h2,h3⟩ := small1 (fun k => sgn_bnd (fnV v) k (inB_fn (hr.bnd r hrm) k)) hv.nn hv.nz (hv.bal hr.len hrm)
    refine hv.wrap hr.len (u := u) h1 h2 fun s hm => ?_
    by_cases hs : s = r
    · rw [hs]; exact h3
    · rw [out s hm (by simpa using hs)]; exact zero _
  | a :: b :: t =>
    have hrows := two_rows hr.two hF.symm
    subst hrows
    have ha : a ∈ [a,b] := by simp
    have hb : b ∈ [a,b] := by simp
    cases hmin : (minors a b).all (fun d => !(d != 0)) with
    | true =>
      have hrk : bnd [a,b] n = 2 := by unfold bnd rk; rw [← hF]; simp only [hmin]; rfl
      rw [hrk]
      have hpar := minors_all hmin
      have hane : a ≠ z4 := by
        have := (List.mem_filter.1 (by rw [← hF]; simp : a ∈ [a,b].filter _)).2
        simpa using this
      obtain ⟨k,hk⟩ := (ne_z4 (hr.len a ha)).1 hane
      obtain ⟨u,h1,h2,h3⟩ := small1 (fun k => sgn_bnd (fnV v) k (inB_fn (hr.bnd a ha) k)) hv.nn hv.nz (hv.bal hr.len ha)
      refine hv.wrap hr.len (u := u) h1 h2 fun s hm => ?_
      rcases List.mem_cons.1 hm with rfl | hm
      · exact h3
      · simp at hm
        subst hm
        have e : fnV a k * dot4 (fun j => sgnV (fnV v) j * fnV s j) u = fnV s k * dot4 (fun j => sgnV (fnV v) j * fnV a j) u := by
          have p0 := hpar k 0
          have p1 := hpar k 1
          have p2 := hpar k 2
          have p3 := hpar k 3
          unfold dot4
          grind
        rw [h3,Int.mul_zero] at e
        exact (Int.mul_eq_zero.1 e).resolve_left hk
    | false =>
      have hrk : bnd [a,b] n = if n = 4 then 16 else 8 := by unfold bnd rk; rw [← hF]; simp only [hmin]; rfl
      obtain ⟨i,j,hij⟩ := minors_some hmin
      have P := plane (fun k => sgnV (fnV v) k * fnV a k) (fun k => sgnV (fnV v) k * fnV b k) ⟨i,j,circ_sgn _ _ _ (sgn_sq _) hij⟩
      have hbd : ∀ {e : V},IsC (circ (fun k => sgnV (fnV v) k * fnV a k) (fun k => sgnV (fnV v) k * fnV b k)) e → ∀ k,-8 ≤ e k ∧ e k ≤ 8 := fun he k => IsC.bound (fun k => sgn_bnd (fnV v) k (inB_fn (hr.bnd a ha) k)) (fun k => sgn_bnd (fnV v) k (inB_fn (hr.bnd b hb) k)) he k
      have hKv : dot4 (fun k => sgnV (fnV v) k * fnV a k) (fun k => sgnV (fnV v) k * fnV v k) = 0 ∧ dot4 (fun k => sgnV (fnV v) k * fnV b k) (fun k => sgnV (fnV v) k * fnV v k) = 0 := ⟨hv.bal hr.len ha,hv.bal hr.len hb⟩
      have fin : ∀ {e : V} {B : Int},8 ≤ B → IsC (circ (fun k => sgnV (fnV v) k * fnV a k) (fun k => sgnV (fnV v) k * fnV b k)) e → (∀ k,0 ≤ e k) → (∀ k,e k ≤ sgnV (fnV v) k * fnV v k) → ∃ u,Mv [a,b] n u ∧ fitR u v = true ∧ inB B u := fun {e B} hB he h0 hle => by
        have hm := IsC.mem P he
        have hb8 := hbd he
        obtain ⟨-,-,-,-,hne⟩ := he
        refine hv.wrap hr.len (u := e) (fun k => ⟨h0 k,hle k,by have := (hb8 k).2; omega⟩) hne fun r hrm => ?_
        rcases List.mem_cons.1 hrm with rfl | hrm
        · exact hm.1
        · simp at hrm; subst hrm; exact hm.2
      by_cases hn4 : n = 4
      · rw [hrk,if_pos hn4]
        obtain ⟨e,f,q,α,β,he,hf,hq,hα,hβ,he0,hf0,hk⟩ := P.split hKv hv.nn hv.nz
        rcases fit_or hq hα hβ he0 hf0 hk (B := 8) (fun k => ⟨(hbd he k).2,(hbd hf k).2⟩) with h | h | h
        · exact fin (by decide) he he0 h
        · exact fin (by decide) hf hf0 h
        · refine ⟨v,hv,?_,fun x hx => ?_⟩
          · rw [fitR_iff rfl]; intro k; omega
          · obtain ⟨k,hk1,hk2⟩ := List.getElem_of_mem hx
            have hk4 : k < 4 := by rw [hv.len] at hk1; exact hk1
            have h9 := h ⟨k,hk4⟩
            have e : fnV v ⟨k,hk4⟩ = x := by unfold fnV; rw [List.getD_eq_getElem?_getD,List.getElem?_eq_getElem hk1,hk2]; rfl
            have h8 := hv.nn ⟨k,hk4⟩
            rw [e] at h9 h8
            unfold sgnV at h9 h8
            split at h9 <;> omega
      · rw [hrk,if_neg hn4]
        have z3 : fnV v 3 = 0 := hv.pad 3 (by omega)
        have za : fnV a 3 = 0 := hpad a ha 3 (by omega)
        have zb : fnV b 3 = 0 := hpad b hb 3 (by omega)
        have hC : ∃ k,circ (fun k => sgnV (fnV v) k * fnV a k) (fun k => sgnV (fnV v) k * fnV b k) 3 k ≠ 0 := by
          obtain ⟨i,j,hij⟩ := P.ne
          by_cases h0 : circ (fun k => sgnV (fnV v) k * fnV a k) (fun k => sgnV (fnV v) k * fnV b k) 3 0 = 0
          · by_cases h1 : circ (fun k => sgnV (fnV v) k * fnV a k) (fun k => sgnV (fnV v) k * fnV b k) 3 1 = 0
            · by_cases h2 : circ (fun k => sgnV (fnV v) k * fnV a k) (fun k => sgnV (fnV v) k * fnV b k) 3 2 = 0
              · exfalso
                apply hij
                simp only [circ] at h0 h1 h2
                refine four (P := fun i => circ (fun k => sgnV (fnV v) k * fnV a k) (fun k => sgnV (fnV v) k * fnV b k) i j = 0) ?_ ?_ ?_ ?_ i <;> (refine four (P := fun j => circ (fun k => sgnV (fnV v) k * fnV a k) (fun k => sgnV (fnV v) k * fnV b k) _ j = 0) ?_ ?_ ?_ ?_ j <;> (simp only [circ,za,zb,Int.mul_zero,Int.zero_mul,Int.sub_zero,Int.neg_zero] <;> omega))
              · exact ⟨2,h2⟩
            · exact ⟨1,h1⟩
          · exact ⟨0,h0⟩
        obtain ⟨e,q,α,he,hq,hα,he0,hk⟩ := P.along hKv hv.nn (j := 3) (by show sgnV (fnV v) 3 * fnV v 3 = 0; rw [z3,Int.mul_zero]) hC hv.nz
        by_cases hqa : q ≤ α
        · refine fin (by decide) he he0 fun k => Int.le_of_mul_le_mul_left ?_ hq
          have e1 := Int.mul_le_mul_of_nonneg_right hqa (he0 k)
          have e2 := hk k
          omega
        · have hle : ∀ k,sgnV (fnV v) k * fnV v k ≤ 8 := fun k => by
            refine Int.le_trans (Int.le_of_mul_le_mul_left (a := q) (c := e k) ?_ hq) (hbd he k).2
            have e1 := Int.mul_le_mul_of_nonneg_right (show α ≤ q by omega) (he0 k)
            have e2 := hk k
            omega
          refine ⟨v,hv,?_,fun x hx => ?_⟩
          · rw [fitR_iff rfl]; intro k; omega
          · obtain ⟨k,hk1,hk2⟩ := List.getElem_of_mem hx
            have hk4 : k < 4 := by rw [hv.len] at hk1; exact hk1
            have h9 := hle ⟨k,hk4⟩
            have e : fnV v ⟨k,hk4⟩ = x := by unfold fnV; rw [List.getD_eq_getElem?_getD,List.getElem?_eq_getElem hk1,hk2]; rfl
            have h8 := hv.nn ⟨k,hk4⟩
            rw [e] at h9 h8
            unfold sgnV at h9 h8
            split at h9 <;> omega
end Go.Abs.Sp
namespace Go.Abs.Sp
theorem dp_split : ∀ (i : Nat) {r y : List Int},r.length = y.length → dp r y = dp (r.take i) (y.take i) + dp (r.drop i) (y.drop i)
  | 0,r,y,_ => by simp [dp]
  | i + 1,[],[],_ => by simp [dp]
  | i + 1,[],_ :: _,h => by simp at h
  | i + 1,_ :: _,[],h => by simp at h
  | i + 1,a :: r,b :: y,h => by
    have := dp_split i (r := r) (y := y) (by simpa using h)
    simp only [dp,List.take_succ_cons,List.drop_succ_cons]
    omega
theorem dp_zero : ∀ {r y : List Int},(∀ a ∈ y,a = 0) → dp r y = 0
  | [],_,_ => by simp [dp]
  | _ :: _,[],_ => by simp [dp]
  | a :: r,b :: y,h => by
    simp only [dp]
    rw [h b (by simp),dp_zero fun a ha => h a (by simp [ha])]
    simp
theorem ab_mul {a b M : Int} (h : -M ≤ b ∧ b ≤ M) : -(ab a * M) ≤ a * b ∧ a * b ≤ ab a * M :=
  mul_bound (A := ab a) (by have := (ab_le (x := a)).1 (Int.le_refl _); omega) (by have := (ab_le (x := a)).1 (Int.le_refl _); omega) h.1 h.2
theorem dp_room {M : Int} (hM : 0 ≤ M) : ∀ {r y : List Int},inB M y → -room M r ≤ dp r y ∧ dp r y ≤ room M r
  | [],y,_ => by simp [dp,room]
  | a :: r,[],_ => by
    have h1 := dp_room hM (r := r) (y := []) (by simp [inB])
    have h2 := Int.mul_nonneg (ab_nonneg a) hM
    have h0 : dp r [] = 0 := dp_zero (by simp)
    rw [h0] at h1
    have e : room M (a :: r) = ab a * M + room M r := rfl
    rw [e,show dp (a :: r) [] = 0 from rfl]
    omega
  | a :: r,b :: y,h => by
    rw [inB_cons] at h
    have h1 := dp_room hM (r := r) h.2
    have h2 := ab_mul (a := a) h.1
    simp only [dp,room,List.foldr_cons] at h1 ⊢
    omega
theorem ext4 {x y : List Int} (hx : x.length = 4) (hy : y.length = 4) (h : ∀ j,x.getD j 0 = y.getD j 0) : x = y := by
  refine List.ext_getElem (by omega) fun i h1 h2 => ?_
  have := h i
  rwa [List.getD_eq_getElem?_getD,List.getD_eq_getElem?_getD,List.getElem?_eq_getElem h1,List.getElem?_eq_getElem h2] at this
theorem take_agree {x y : List Int} (hx : x.length = 4) (hy : y.length = 4) {i m : Nat} (hm : m ≤ i) (h : ∀ j,j < i → x.getD j 0 = y.getD j 0) : x.take m = y.take m := by
  refine List.ext_getElem (by simp [hx,hy]) fun k h1 h2 => ?_
  rw [List.length_take] at h1
  have := h k (by omega)
  rw [List.getD_eq_getElem?_getD,List.getD_eq_getElem?_getD,List.getElem?_eq_getElem (by omega),List.getElem?_eq_getElem (by omega)] at this
  rw [List.getElem_take,List.getElem_take]
  exact this
theorem drop_zero {y : List Int} {n : Nat} (h : ∀ j,n ≤ j → y.getD j 0 = 0) : ∀ a ∈ y.drop n,a = 0 := by
  intro a ha
  obtain ⟨k,hk,rfl⟩ := List.getElem_of_mem ha
  have := h (n + k) (by omega)
  rw [List.length_drop] at hk
  rw [List.getD_eq_getElem?_getD,List.getElem?_eq_getElem (by omega)] at this
  rw [List.getElem_drop]
  exact this
theorem can_of {rows : List (List Int)} (hr : ∀ r ∈ rows,r.length = 4) {n i : Nat} {most : Int} (hm : 0 ≤ most) {x y : List Int} (hx : x.length = 4) (hy : y.length = 4) (hyb : inB most y) (hp : ∀ j,n ≤ j → y.getD j 0 = 0) (hmv : moveB rows y = true) (h : ∀ j,j < i → x.getD j 0 = y.getD j 0) : can rows n i most x = true := by
  unfold can
  rw [List.all_eq_true]
  intro r hrm
  unfold moveB at hmv
  rw [List.all_eq_true] at hmv
  have h0 : dp r y = 0 := by simpa using hmv r hrm
  rw [dp_split n (by rw [hr r hrm,hy]),dp_zero (drop_zero hp),dp_split i (by simp [hr r hrm,hy]),List.take_take,List.take_take] at h0
  have h1 := dp_room hm (r := (r.take n).drop i) (y := (y.take n).drop i) (fun a ha => hyb a (List.mem_of_mem_take (List.mem_of_mem_drop ha)))
  unfold canR
  rw [decide_eq_true_eq,take_agree hx hy (Nat.min_le_left i n) h,ab_le]
  omega
theorem growL_all {rows : List (List Int)} (hr : ∀ r ∈ rows,r.length = 4) {n most : Nat} {y : List Int} (hy : y.length = 4) (hyb : inB most y) (hp : ∀ j,n ≤ j → y.getD j 0 = 0) (hmv : moveB rows y = true) (hne : y ≠ z4) :
    ∀ (k i : Nat) {x : List Int},x.length = 4 → i + k ≤ 4 → (∀ j,(j < i ∨ i + k ≤ j) → x.getD j 0 = y.getD j 0) → y ∈ growL rows n most k i x
  | 0,i,x,hx,_,h => by
    have e : x = y := ext4 hx hy fun j => h j (by omega)
    subst e
    unfold growL
    rw [if_pos (by simp [hmv,hne])]
    simp
  | k + 1,i,x,hx,hi,h => by
    unfold growL
    have hb := inB_getD hyb i (by omega)
    refine List.mem_flatMap.2 ⟨(y.getD i 0 + most).toNat,List.mem_range.2 (by omega),?_⟩
    have e : (((y.getD i 0 + most).toNat : Nat) : Int) - most = y.getD i 0 := by omega
    rw [e]
    have ag : ∀ j,(j < i + 1 ∨ i + 1 + k ≤ j) → (x.set i (y.getD i 0)).getD j 0 = y.getD j 0 := fun j hj => by
      by_cases hji : j = i
      · subst hji
        rw [List.getD_eq_getElem?_getD,List.getElem?_set_self (by omega)]; rfl
      · rw [List.getD_eq_getElem?_getD,List.getElem?_set_ne (by omega),← List.getD_eq_getElem?_getD]
        exact h j (by omega)
    rw [if_pos (can_of hr (by omega) (by simpa using hx) hy hyb hp hmv fun j hj => ag j (.inl hj))]
    exact growL_all hr hy hyb hp hmv hne k (i + 1) (by simpa using hx) (by omega) ag
theorem z4_getD (j : Nat) : z4.getD j 0 = 0 := by
  rcases (show j = 0 ∨ j = 1 ∨ j = 2 ∨ j = 3 ∨ 4 ≤ j by omega) with rfl | rfl | rfl | rfl | h
  · rfl
  · rfl
  · rfl
  · rfl
  · rw [List.getD_eq_getElem?_getD,List.getElem?_eq_none (by simp [z4]; omega)]; rfl
theorem mem_movesL {rows : List (List Int)} (hr : ∀ r ∈ rows,r.length = 4) {n : Nat} (hn : n ≤ 4) {x : List Int} : x ∈ movesL rows n ↔ Mv rows n x ∧ inB (mostOf rows) x := by
  constructor
  · intro h
    obtain ⟨h1,h2,h3,h4,h5⟩ := growL_mem n 0 (by rfl) (z4_in _ (by omega)) h
    exact ⟨⟨h1,fun j hj => by rw [h3 j (by omega),z4_getD],h4,h5⟩,h2⟩
  · rintro ⟨h,hb⟩
    exact growL_all hr h.len hb h.pad h.mv h.ne n 0 rfl (by omega) fun j hj => by rw [h.pad j (by omega),z4_getD]
theorem fitR_refl (x : List Int) : fitR x x = true := by
  rw [fitR_iff rfl]; intro k; omega
theorem fitR_trans {x y z : List Int} (hx : x.length = 4) (hy : y.length = 4) (hz : z.length = 4) (h1 : fitR x y = true) (h2 : fitR y z = true) : fitR x z = true := by
  rw [fitR_iff (by omega)] at *
  intro k
  have := h1 k
  have := h2 k
  omega
theorem fitR_anti {x y : List Int} (hx : x.length = 4) (hy : y.length = 4) (h1 : fitR x y = true) (h2 : fitR y x = true) : x = y := by
  rw [fitR_iff (by omega)] at h1 h2
  refine ext4 hx hy fun k => ?_
  have := h1 k
  have := h2 k
  omega
theorem fitR_size {x y : List Int} (hx : x.length = 4) (hy : y.length = 4) (h1 : fitR x y = true) (h2 : size y ≤ size x) : x = y := by
  rw [fitR_iff (by omega)] at h1
  have k : ∀ k,ab (x.getD k 0) ≤ ab (y.getD k 0) ∧ (ab (x.getD k 0) = ab (y.getD k 0) → x.getD k 0 = y.getD k 0) := fun k => by
    have := h1 k
    unfold ab
    split <;> split <;> omega
  unfold size at h2
  have k0 := k 0
  have k1 := k 1
  have k2 := k 2
  have k3 := k 3
  refine ext4 hx hy fun j => ?_
  rcases (show j = 0 ∨ j = 1 ∨ j = 2 ∨ j = 3 ∨ 4 ≤ j by omega) with rfl | rfl | rfl | rfl | h
  · exact k0.2 (by omega)
  · exact k1.2 (by omega)
  · exact k2.2 (by omega)
  · exact k3.2 (by omega)
  · rw [List.getD_eq_getElem?_getD,List.getElem?_eq_none (by omega),List.getD_eq_getElem?_getD,List.getElem?_eq_none (by omega)]
theorem keepMin_app : ∀ (l out : List (List Int)),∃ l',keepMin out l = out ++ l' ∧ l'.Sublist l
  | [],out => ⟨[],by simp [keepMin],.slnil⟩
  | x :: l,out => by
    unfold keepMin
    split
    · obtain ⟨l',h1,h2⟩ := keepMin_app l out
      exact ⟨l',h1,h2.cons x⟩
    · obtain ⟨l',h1,h2⟩ := keepMin_app l (out ++ [x])
      exact ⟨x :: l',by rw [h1]; simp,h2.cons_cons x⟩
theorem keepMin_pair : ∀ (l out : List (List Int)),out.Pairwise (fun a b => fitR a b = false) → (keepMin out l).Pairwise (fun a b => fitR a b = false)
  | [],out,h => by simpa [keepMin] using h
  | x :: l,out,h => by
    unfold keepMin
    split
    · exact keepMin_pair l out h
    · rename_i hn
      refine keepMin_pair l _ (List.pairwise_append.2 ⟨h,by simp,fun a ha b hb => ?_⟩)
      simp at hb; subst hb
      rw [List.any_eq_true] at hn
      cases hf : fitR a b with
      | false => rfl
      | true => exact absurd ⟨a,ha,hf⟩ hn
theorem keepMin_cov : ∀ (l out : List (List Int)),∀ x ∈ l,∃ y ∈ keepMin out l,fitR y x = true
  | [],out,x,h => by simp at h
  | z :: l,out,x,h => by
    unfold keepMin
    rcases List.mem_cons.1 h with rfl | h
    · split
      · rename_i ha
        obtain ⟨y,hy,hf⟩ := List.any_eq_true.1 ha
        obtain ⟨l',h1,-⟩ := keepMin_app l out
        exact ⟨y,by rw [h1]; simp [hy],hf⟩
      · obtain ⟨l',h1,-⟩ := keepMin_app l (out ++ [x])
        exact ⟨x,by rw [h1]; simp,fitR_refl x⟩
    · split
      · exact keepMin_cov l _ x h
      · exact keepMin_cov l _ x h
theorem keepMin_min {l : List (List Int)} (h4 : ∀ x ∈ l,x.length = 4) (hs : l.Pairwise (fun x y => size x ≤ size y)) {y z : List Int} (hy : y ∈ keepMin [] l) (hz : z ∈ l) (hf : fitR z y = true) : z = y := by
  obtain ⟨l',h1,h2⟩ := keepMin_app l []
  rw [List.nil_append] at h1
  have hp := keepMin_pair l [] .nil
  obtain ⟨w,hw,hwz⟩ := keepMin_cov l [] z hz
  rw [h1] at hy hw hp
  have hyl := h2.subset hy
  have hwl := h2.subset hw
  have hwy := fitR_trans (h4 w hwl) (h4 z hz) (h4 y hyl) hwz hf
  have e : w = y := by
    by_cases e : w = y
    · exact e
    · refine fitR_size (h4 w hwl) (h4 y hyl) hwy ?_
      have hps := hs.sublist h2
      obtain ⟨i,hi,rfl⟩ := List.getElem_of_mem hw
      obtain ⟨j,hj,rfl⟩ := List.getElem_of_mem hy
      rcases Nat.lt_trichotomy i j with h | h | h
      · have := List.pairwise_iff_getElem.1 hp i j hi hj h
        rw [this] at hwy; cases hwy
      · subst h; exact absurd rfl e
      · exact List.pairwise_iff_getElem.1 hps j i hj hi h
  subst e
  exact fitR_anti (h4 z hz) (h4 w hwl) hf hwz
structure Mini (rows : List (List Int)) (n : Nat) (x : List Int) : Prop where
  mv : Mv rows n x
  min : ∀ y,Mv rows n y → fitR y x = true → y = x
theorem bnd_most (rows : List (List Int)) (n : Nat) : bnd rows n ≤ mostOf rows := by
  rw [mostOf_rk]; unfold bnd
  split
  · omega
  · split
    · omega
    · split <;> omega
theorem Mini.bnd {rows : List (List Int)} {n : Nat} (hr : Rows4 rows) (hpad : ∀ r ∈ rows,∀ j,n ≤ j → r.getD j 0 = 0) (hn : n ≤ 4) {x : List Int} (h : Mini rows n x) : inB (bnd rows n) x := by
  obtain ⟨u,h1,h2,h3⟩ := small hr hpad hn h.mv
  rw [← h.min u h1 h2]; exact h3
theorem mem_keep {rows : List (List Int)} {n : Nat} (hr : Rows4 rows) (hpad : ∀ r ∈ rows,∀ j,n ≤ j → r.getD j 0 = 0) (hn : n ≤ 4) {l : List (List Int)} (hp : l.Perm (movesL rows n)) (hs : l.Pairwise (fun x y => size x ≤ size y)) {x : List Int} : x ∈ keepMin [] l ↔ Mini rows n x := by
  have hm : ∀ {x},x ∈ l ↔ Mv rows n x ∧ inB (mostOf rows) x := fun {x} => by rw [hp.mem_iff]; exact mem_movesL hr.len hn
  have h4 : ∀ x ∈ l,x.length = 4 := fun x hx => (hm.1 hx).1.len
  obtain ⟨l',h1,h2⟩ := keepMin_app l []
  rw [List.nil_append] at h1
  constructor
  · intro hx
    have hxl : x ∈ l := by rw [h1] at hx; exact h2.subset hx
    refine ⟨(hm.1 hxl).1,fun y hy hf => ?_⟩
    obtain ⟨u,u1,u2,u3⟩ := small hr hpad hn hy
    have hul : u ∈ l := hm.2 ⟨u1,inB_mono u3 (bnd_most rows n)⟩
    have e := keepMin_min h4 hs hx hul (fitR_trans u1.len hy.len (h4 x hxl) u2 hf)
    rw [e] at u2
    exact fitR_anti hy.len (h4 x hxl) hf u2
  · intro h
    have hxl : x ∈ l := hm.2 ⟨h.mv,inB_mono (h.bnd hr hpad hn) (bnd_most rows n)⟩
    obtain ⟨y,hy,hf⟩ := keepMin_cov l [] x hxl
    have hyl : y ∈ l := by rw [h1] at hy; exact h2.subset hy
    rw [← h.min y (hm.1 hyl).1 hf]; exact hy
end Go.Abs.Sp
namespace Go.Abs.Sp
open Go.Abs.Cir
theorem nodup_map {α β : Type} {f : α → β} : ∀ {l : List α},l.Nodup → (∀ x ∈ l,∀ y ∈ l,f x = f y → x = y) → (l.map f).Nodup
  | [],_,_ => .nil
  | a :: l,h,hi => by
    rw [List.nodup_cons] at h
    rw [List.map_cons,List.nodup_cons]
    refine ⟨fun hm => ?_,nodup_map h.2 fun x hx y hy => hi x (by simp [hx]) y (by simp [hy])⟩
    obtain ⟨b,hb,e⟩ := List.mem_map.1 hm
    have := hi b (by simp [hb]) a (by simp) e
    subst this
    exact h.1 hb
theorem nodup_len : ∀ {N : Nat} {l : List Nat},l.Nodup → (∀ x ∈ l,x < N) → l.length ≤ N
  | 0,[],_,_ => by simp
  | 0,x :: l,_,h => by have := h x (by simp); omega
  | N + 1,l,hn,h => by
    have h1 := nodup_len (N := N) (l := l.erase N) (hn.erase N) fun x hx => by
      have h2 := h x (List.mem_of_mem_erase hx)
      have h3 : x ≠ N := fun e => by subst e; exact hn.not_mem_erase hx
      omega
    have h2 := List.length_erase (a := N) (l := l)
    split at h2 <;> omega
theorem count_le {l : List (List Int)} {f : List Int → Nat} {N : Nat} (hn : l.Nodup) (hb : ∀ x ∈ l,f x < N) (hi : ∀ x ∈ l,∀ y ∈ l,f x = f y → x = y) : l.length ≤ N := by
  have := nodup_len (nodup_map hn hi) (N := N) fun y hy => by
    obtain ⟨x,hx,rfl⟩ := List.mem_map.1 hy
    exact hb x hx
  simpa using this
def Edge (r s σ : V) (j : Fin 4) : Prop := ∃ t : Int,∃ i,(∀ k,0 ≤ t * circ (fun k => σ k * r k) (fun k => σ k * s k) j k) ∧ 0 < t * circ (fun k => σ k * r k) (fun k => σ k * s k) j i
end Go.Abs.Sp
