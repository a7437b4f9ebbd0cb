/- Basic moves,plain: what is answered. -/
import Derived.Test.YtlonaefihjdkpaaTLT
import Derived.Test.YtlonaefihjdkpaaTLE
namespace Go.Abs.Sp
open Go.Abs.Cir Go.Proofs.Ytlonaefihjdkpaa
theorem take_pad {y : List Int} {n : Nat} (hn : n ≤ 4) (hy : y.length = 4) (hp : ∀ j,n ≤ j → y.getD j 0 = 0) : pad (y.take n) = y := by
  have e : y.drop n = List.replicate (4 - n) 0 := by
    rw [List.eq_replicate_iff]
    exact ⟨by rw [List.length_drop,hy],drop_zero hp⟩
  unfold pad
  rw [List.length_take,hy,Nat.min_eq_left hn,← e,List.take_append_drop]
theorem pad_getD {x : List Int} {n j : Nat} (h : x.length = n) (hj : n ≤ j) : (pad x).getD j 0 = 0 := by
  unfold pad
  rw [List.getD_eq_getElem?_getD,List.getElem?_append_right (by omega)]
  cases h' : (List.replicate (4 - x.length) (0 : Int))[j - x.length]? with
  | none => rfl
  | some v => exact List.eq_of_mem_replicate (List.mem_of_getElem? h')
theorem pad_take {x : List Int} {n : Nat} (h : x.length = n) : (pad x).take n = x := by
  unfold pad; rw [List.take_append_of_le_length (by omega),List.take_of_length_le (by omega)]
theorem getD_neg (x : List Int) (j : Nat) : (x.map fun z => -z).getD j 0 = -(x.getD j 0) := by
  simp only [List.getD_eq_getElem?_getD,List.getElem?_map]
  cases x[j]? <;> rfl
theorem dp_neg : ∀ r y : List Int,dp r (y.map fun z => -z) = -dp r y
  | [],_ => by simp [dp]
  | _ :: _,[] => by simp [dp]
  | a :: r,b :: y => by
    simp only [dp,List.map_cons]
    rw [dp_neg r y,Int.mul_neg]; omega
theorem fitR_neg {x y : List Int} (h : x.length = y.length) (hf : fitR x y = true) : fitR (x.map fun z => -z) (y.map fun z => -z) = true := by
  rw [fitR_iff h] at hf
  rw [fitR_iff (by simpa using h)]
  intro k
  have := hf k
  rw [getD_neg,getD_neg]; omega
theorem neg_neg_l (x : List Int) : (x.map fun z => -z).map (fun z => -z) = x := by
  rw [List.map_map]
  conv => rhs; rw [← List.map_id x]
  congr 1; funext z; simp
theorem Mv.neg {rows : List (List Int)} {n : Nat} {x : List Int} (h : Mv rows n x) : Mv rows n (x.map fun z => -z) := by
  refine ⟨by simpa using h.len,fun j hj => by rw [getD_neg,h.pad j hj]; rfl,fun e => h.ne ?_,?_⟩
  · have := congrArg (List.map fun z => -z) e
    rw [neg_neg_l] at this
    rw [this]; rfl
  · have hm := h.mv
    unfold moveB at hm ⊢
    rw [List.all_eq_true] at hm ⊢
    intro r hr
    have := hm r hr
    simp at this
    simp [dp_neg,this]
theorem Mini.neg {rows : List (List Int)} {n : Nat} {x : List Int} (h : Mini rows n x) : Mini rows n (x.map fun z => -z) := by
  refine ⟨h.mv.neg,fun y hy hf => ?_⟩
  have h1 := fitR_neg (by simp [hy.len,h.mv.len]) hf
  rw [neg_neg_l] at h1
  rw [← h.min _ hy.neg h1,neg_neg_l]
def ansL (n : Nat) (bs : List (List Int)) : List (List Int) := sortV (bs.map fun x => x.take n)
section
variable {a : List (List Int)} {bs : List (List Int)}
theorem mat_cols (h : mat a = true) {n : Nat} (hn : n = (a.getD 0 []).length) : Rows4 (a.map pad) ∧ (∀ r ∈ a.map pad,∀ j,n ≤ j → r.getD j 0 = 0) ∧ 1 ≤ n ∧ n ≤ 4 := by
  obtain ⟨r1,-,r3,r4⟩ := mat_rows h
  obtain ⟨-,-,h3⟩ := mat_spec h
  refine ⟨r1,fun r hr j hj => ?_,by omega,by omega⟩
  obtain ⟨x,hx,rfl⟩ := List.mem_map.1 hr
  exact pad_getD (n := n) (by rw [(h3 x hx).1,hn]) hj
theorem mem_bs (h : mat a = true) (hB : IsB (a.map pad) (a.getD 0 []).length bs) {x : List Int} : x ∈ bs ↔ Mini (a.map pad) (a.getD 0 []).length x := by
  obtain ⟨r1,r2,-,r4⟩ := mat_cols h rfl
  obtain ⟨l,hp,hs,rfl⟩ := hB
  exact mem_keep r1 r2 r4 hp hs
theorem mem_ans (h : mat a = true) (hB : IsB (a.map pad) (a.getD 0 []).length bs) {x : List Int} : x ∈ ansL (a.getD 0 []).length bs ↔ x.length = (a.getD 0 []).length ∧ Mini (a.map pad) (a.getD 0 []).length (pad x) := by
  obtain ⟨r1,r2,-,r4⟩ := mat_cols h rfl
  unfold ansL
  rw [(sortV_perm _).mem_iff,List.mem_map]
  constructor
  · rintro ⟨y,hy,rfl⟩
    have hm := (mem_bs h hB).1 hy
    exact ⟨by rw [List.length_take,hm.mv.len]; omega,by rw [take_pad r4 hm.mv.len hm.mv.pad]; exact hm⟩
  · rintro ⟨hl,hm⟩
    exact ⟨pad x,(mem_bs h hB).2 hm,pad_take hl⟩
end
end Go.Abs.Sp
