/- Products and fitting,plain: what is worked out with four numbers is as the reference has it. -/
import Derived.Test.YtipfjfmdjmaflaaKL
namespace Go.Abs.Sp
theorem wrap_wrap (x : Int) : IntKind.i64.wrap (IntKind.i64.wrap x) = IntKind.i64.wrap x := by
  rw [IntKind.wrap_i64,IntKind.wrap_i64]; omega
theorem dotG_zero {s : Int} (hs : IntKind.i64.wrap s = s) : ∀ k,dotG s (List.replicate k 0) (List.replicate k 0) = s
  | 0 => rfl
  | k + 1 => by
    simp only [List.replicate_succ,dotG]
    have : IntKind.i64.wrap (s + IntKind.i64.wrap (0 * 0)) = s := by
      rw [show IntKind.i64.wrap (0 * 0) = 0 from rfl,Int.add_zero,hs]
    rw [this]
    exact dotG_zero hs k
theorem dotG_app (k : Nat) : ∀ (r x : List Int) (s : Int),r.length = x.length → IntKind.i64.wrap s = s → dotG s (r ++ List.replicate k 0) (x ++ List.replicate k 0) = dotG s r x
  | [],[],s,_,hs => by simpa [dotG] using dotG_zero hs k
  | [],_ :: _,_,h,_ => by simp at h
  | _ :: _,[],_,h,_ => by simp at h
  | a :: r,b :: x,s,h,_ => by
    simp only [List.cons_append,dotG]
    exact dotG_app k r x _ (by simpa using h) (wrap_wrap _)
theorem dot_pad {r x : List Int} (h : r.length = x.length) : dot (pad r) (pad x) = dotG 0 r x := by
  unfold dot pad
  rw [h]
  exact dotG_app _ r x 0 h rfl
theorem fitG_zero : ∀ k,fitG (List.replicate k 0) (List.replicate k 0) = true
  | 0 => rfl
  | k + 1 => by
    simp only [List.replicate_succ,fitG]
    rw [if_neg (by simp)]
    exact fitG_zero k
theorem absW_small {u : Int} (h1 : -1000 ≤ u) (h2 : u ≤ 1000) : absW u = if u < 0 then -u else u := by
  unfold absW
  rw [wrap64 (by omega) (by omega)]
  split <;> split <;> omega
theorem fit_one {u z : Int} (hu : -1000 ≤ u ∧ u ≤ 1000) (hz : -1000 ≤ z ∧ z ≤ 1000) : (u != 0 && (decide (u > 0) != decide (z > 0) || decide (absW u > absW z))) = (decide (u > 0) && decide (u > z) || decide (u < 0) && decide (u < z)) := by
  rw [absW_small hu.1 hu.2,absW_small hz.1 hz.2,Bool.eq_iff_iff]
  simp only [Bool.and_eq_true,Bool.or_eq_true,bne_iff_ne,decide_eq_true_eq,ne_eq,decide_eq_decide]
  split <;> split <;> omega
theorem fitG_app (k : Nat) : ∀ (x y : List Int),x.length = y.length → numbers x (-1000) 1000 = true → numbers y (-1000) 1000 = true → fitG (x ++ List.replicate k 0) (y ++ List.replicate k 0) = fitR x y
  | [],[],_,_,_ => by simpa [fitR] using fitG_zero k
  | [],_ :: _,h,_,_ => by simp at h
  | _ :: _,[],h,_,_ => by simp at h
  | u :: x,z :: y,h,hx,hy => by
    have e1 : numbers (u :: x) (-1000) 1000 = ((decide (-1000 ≤ u) && decide (u ≤ 1000)) && numbers x (-1000) 1000) := rfl
    have e2 : numbers (z :: y) (-1000) 1000 = ((decide (-1000 ≤ z) && decide (z ≤ 1000)) && numbers y (-1000) 1000) := rfl
    rw [e1] at hx
    rw [e2] at hy
    simp only [Bool.and_eq_true,decide_eq_true_eq] at hx hy
    simp only [List.cons_append,fitG,fitR]
    rw [fit_one hx.1 hy.1,fitG_app k x y (by simpa using h) hx.2 hy.2]
theorem mat_spec {a : List (List Int)} (h : mat a = true) : 1 ≤ a.length ∧ a.length ≤ 2 ∧ ∀ r ∈ a,r.length = (a.getD 0 []).length ∧ 1 ≤ r.length ∧ r.length ≤ 4 := by
  unfold mat at h
  simp only [Bool.and_eq_true,decide_eq_true_eq,List.all_eq_true] at h
  exact ⟨h.1,h.2.1,fun r hr => ⟨(h.2.2 r hr).1,(h.2.2 r hr).2.1,(h.2.2 r hr).2.2.1⟩⟩
theorem table6_id {a : List (List Int)} (h1 : a.length ≤ 250) (h2 : ∀ r ∈ a,r.length ≤ 6) : table6 a = a := by
  unfold table6
  rw [List.take_of_length_le h1,List.map_congr_left (f := fun x => List.take 6 x) (g := id) fun r hr => List.take_of_length_le (h2 r hr)]
  simp
theorem mat_table {a : List (List Int)} : mat (table6 a) = mat a ∧ (mat a = true → table6 a = a) := by
  have key : mat a = true → table6 a = a := fun h => by
    obtain ⟨h1,h2,h3⟩ := mat_spec h
    exact table6_id (by omega) fun r hr => by have := (h3 r hr).2.2; omega
  refine ⟨?_,key⟩
  cases hm : mat a with
  | true => rw [key hm,hm]
  | false =>
    cases ht : mat (table6 a) with
    | false => rfl
    | true =>
      obtain ⟨h1,h2,h3⟩ := mat_spec ht
      have hl : (table6 a).length = min 250 a.length := by simp [table6]
      have : table6 a = a := table6_id (by omega) fun r hr => by
        have hr' : r.take 6 ∈ table6 a := by
          unfold table6
          rw [List.take_of_length_le (by omega)]
          exact List.mem_map_of_mem hr
        have := (h3 _ hr').2.2
        rw [List.length_take] at this
        omega
      rw [this,hm] at ht; cases ht
theorem take6 {x : List Int} {n : Nat} (hn : n ≤ 4) : (decide ((x.take 6).length = n) = decide (x.length = n)) ∧ (x.length = n → x.take 6 = x) := by
  refine ⟨?_,fun h => List.take_of_length_le (by omega)⟩
  rw [decide_eq_decide,List.length_take]; omega
theorem vecOk_take {a : List (List Int)} {x : List Int} {lo hi : Int} : vecOk (table6 a) (x.take 6) lo hi = vecOk a x lo hi := by
  unfold vecOk
  rw [mat_table.1]
  cases hm : mat a with
  | false => rfl
  | true =>
    rw [mat_table.2 hm]
    obtain ⟨h1,h2,h3⟩ := mat_spec hm
    have hn : (a.getD 0 []).length ≤ 4 := (h3 _ (by rw [List.getD_eq_getElem?_getD,List.getElem?_eq_getElem (by omega)]; exact List.getElem_mem _)).2.2
    obtain ⟨t1,t2⟩ := take6 (x := x) hn
    rw [t1]
    by_cases hx : x.length = (a.getD 0 []).length
    · rw [t2 hx]
    · rw [decide_eq_false hx]; rfl
end Go.Abs.Sp
