/- Basic moves,plain: what the program's functions compute. -/
import Derived.Test.YtlonaefihjdkpaaTKP
import Derived.Test.YtlonaefihjdkpaaSP
import Derived.Test.YtlonaefihjdkpaaAN
namespace Go.Abs
open AVal
theorem roundB1 {x : Cx} {Q : QT} {ks : List Kont} {fr : Fr} {H H1 : AHeap} {ι : Type} {St : ι → Fr × AHeap} {μ : ι → Nat} {i : ι} (j : ι) (h1 : μ j < μ i) (hH : H = (St j).2 ++ H1) (hB : (St j).2.length = x.B) (hok : ∀ b ∈ (St j).2,blkOk x.B b = true)
    (hf : ∀ p ∈ (St j).1,fr.get p.1 = p.2 ∧ vid x.B 3 p.2 = true) : KQ x Q .norm (.loop [] St μ i :: ks) fr H [] := by
  subst hH
  exact KQ_round rfl j (idρ x.B) h1 (Wk.same hB hok hf)
section
variable {xs : List (List Int)}
theorem flat_drop (h : ∀ v ∈ xs,v.length = 4) : ∀ i,xs.flatten.drop (i * 4) = (xs.drop i).flatten := by
  induction xs with
  | nil => intro i; simp
  | cons a r ih =>
    intro i
    have ha := h a (by simp)
    cases i with
    | zero => simp
    | succ i =>
      rw [List.flatten_cons,List.drop_append,List.drop_of_length_le (by omega),List.nil_append,ha,show (i + 1) * 4 - 4 = i * 4 by omega]
      exact ih (fun v hv => h v (by simp [hv])) i
theorem flat_take (h : ∀ v ∈ xs,v.length = 4) : ∀ i,xs.flatten.take (i * 4) = (xs.take i).flatten := by
  induction xs with
  | nil => intro i; simp
  | cons a r ih =>
    intro i
    have ha := h a (by simp)
    cases i with
    | zero => simp
    | succ i =>
      rw [List.flatten_cons,List.take_append,List.take_of_length_le (by omega),ha,show (i + 1) * 4 - 4 = i * 4 by omega,ih (fun v hv => h v (by simp [hv])) i]
      simp
theorem flat4_get (h : ∀ v ∈ xs,v.length = 4) {i : Nat} (hi : i < xs.length) : (xs.flatten.drop (i * 4)).take 4 = xs.getD i [] := by
  rw [flat_drop h,List.drop_eq_getElem_cons hi,List.flatten_cons,List.take_append_of_le_length (by rw [h _ (List.getElem_mem hi)]; exact Nat.le_refl _),List.take_of_length_le (by rw [h _ (List.getElem_mem hi)]; exact Nat.le_refl _),List.getD_eq_getElem?_getD,List.getElem?_eq_getElem hi]; rfl
theorem mF_cut (h : ∀ v ∈ xs,v.length = 4) {i : Nat} (hi : i < xs.length) : cut true 4 ((mI xs.flatten).drop (i * 4)) = vec (xs.getD i []) := by
  show AVal.agg _ = _
  rw [mI_drop,mI_take,flat4_get h hi]; rfl
theorem mF_len (h : ∀ v ∈ xs,v.length = 4) : (mI xs.flatten).length = xs.length * 4 := by rw [mI_length,flat_len h]
theorem flat_set (h : ∀ v ∈ xs,v.length = 4) {i : Nat} (hi : i < xs.length) (v : List Int) : xs.flatten.take (i * 4) ++ v ++ xs.flatten.drop (i * 4 + 4) = (xs.set i v).flatten := by
  rw [flat_take h,show i * 4 + 4 = (i + 1) * 4 by omega,flat_drop h,List.set_eq_take_append_cons_drop,if_pos hi]
  simp
theorem mF_cut' (h : ∀ v ∈ xs,v.length = 4) {i : Nat} (hi : i < xs.length) : cut true 4 (mI (xs.flatten.drop (i * 4))) = vec (xs.getD i []) := by rw [← mI_drop]; exact mF_cut h hi
theorem set4 (h : ∀ v ∈ xs,v.length = 4) {i : Nat} {v : List Int} (hv : v.length = 4) : ∀ u ∈ xs.set i v,u.length = 4 := fun u hu => by
  rcases List.mem_or_eq_of_mem_set hu with hu | rfl
  · exact h u hu
  · exact hv
theorem getD4 (h : ∀ v ∈ xs,v.length = 4) {i : Nat} (hi : i < xs.length) : (xs.getD i []).length = 4 := by
  rw [List.getD_eq_getElem?_getD,List.getElem?_eq_getElem hi]; exact h _ (List.getElem_mem hi)
end
end Go.Abs
namespace Go.Abs.Sp
def z4 : List Int := [0,0,0,0]
def dp : List Int → List Int → Int
  | x :: xs,y :: ys => x * y + dp xs ys
  | _,_ => 0
def inB (M : Int) (x : List Int) : Prop := ∀ a ∈ x,-M ≤ a ∧ a ≤ M
def ab (x : Int) : Int := if x < 0 then -x else x
theorem ab_nonneg (x : Int) : 0 ≤ ab x := by unfold ab; split <;> omega
theorem ab_le {x M : Int} : ab x ≤ M ↔ -M ≤ x ∧ x ≤ M := by unfold ab; split <;> omega
theorem absW_ab {x : Int} (h1 : -4611686018427387904 ≤ x) (h2 : x ≤ 4611686018427387904) : absW x = ab x := by
  unfold absW ab
  rw [wrap64 (by omega) (by omega)]
  split <;> split <;> omega
theorem inB_cons {M x : Int} {l : List Int} : inB M (x :: l) ↔ (-M ≤ x ∧ x ≤ M) ∧ inB M l := by simp [inB]
theorem inB_mono {M N : Int} {l : List Int} (h : inB M l) (hN : M ≤ N) : inB N l := fun a ha => by have := h a ha; omega
theorem inB_getD {M : Int} {l : List Int} (h : inB M l) (i : Nat) (hM : 0 ≤ M := by decide) : -M ≤ l.getD i 0 ∧ l.getD i 0 ≤ M := by
  rw [List.getD_eq_getElem?_getD]
  cases hi : l[i]? with
  | none => simp; omega
  | some a => exact h a (List.mem_of_getElem? hi)
theorem mul_bound {A M a b : Int} (h1 : -A ≤ a) (h2 : a ≤ A) (h3 : -M ≤ b) (h4 : b ≤ M) : -(A * M) ≤ a * b ∧ a * b ≤ A * M := by
  have k1 := Int.mul_nonneg (show 0 ≤ A - a by omega) (show 0 ≤ M - b by omega)
  have k2 := Int.mul_nonneg (show 0 ≤ A + a by omega) (show 0 ≤ M + b by omega)
  have k3 := Int.mul_nonneg (show 0 ≤ A - a by omega) (show 0 ≤ M + b by omega)
  have k4 := Int.mul_nonneg (show 0 ≤ A + a by omega) (show 0 ≤ M - b by omega)
  rw [Int.sub_mul,Int.mul_sub,Int.mul_sub] at k1
  rw [Int.add_mul,Int.mul_add,Int.mul_add] at k2
  rw [Int.sub_mul,Int.mul_add,Int.mul_add] at k3
  rw [Int.add_mul,Int.mul_sub,Int.mul_sub] at k4
  omega
theorem dp_bound {A M : Int} (hA : 0 ≤ A) (hM : 0 ≤ M) : ∀ {r x : List Int},inB A r → inB M x → -(A * M * r.length) ≤ dp r x ∧ dp r x ≤ A * M * r.length
  | [],x,_,_ => by simp [dp]
  | a :: r,[],_,_ => by
    have h0 := Int.mul_nonneg (Int.mul_nonneg hA hM) (Int.natCast_nonneg (a :: r).length)
    simp only [dp]; omega
  | a :: r,b :: x,h1,h2 => by
    rw [inB_cons] at h1 h2
    have ih := dp_bound hA hM h1.2 h2.2
    have hb := mul_bound h1.1.1 h1.1.2 h2.1.1 h2.1.2
    have e : A * M * ((a :: r).length : Nat) = A * M * (r.length : Nat) + A * M := by
      rw [List.length_cons,Int.natCast_add,Int.mul_add]; simp
    rw [e]
    simp only [dp]; omega
theorem dotG_dp {A M : Int} (hA : 0 ≤ A) (hM : 0 ≤ M) (hAM : A * M ≤ 1152921504606846976) : ∀ {r x : List Int} {s : Int},inB A r → inB M x → r.length ≤ 4 → -(A * M * (4 - r.length)) ≤ s → s ≤ A * M * (4 - r.length) → dotG s r x = s + dp r x
  | [],x,s,_,_,_,_,_ => by simp [dotG,dp]
  | a :: r,[],s,_,_,_,_,_ => by simp [dotG,dp]
  | a :: r,b :: x,s,h1,h2,hl,hs1,hs2 => by
    rw [inB_cons] at h1 h2
    have hb := mul_bound h1.1.1 h1.1.2 h2.1.1 h2.1.2
    have hAM0 := Int.mul_nonneg hA hM
    have e : A * M * (4 - ((a :: r).length : Nat)) = A * M * (4 - (r.length : Nat)) - A * M := by
      rw [List.length_cons,Int.natCast_add,show (4 : Int) - ((r.length : Nat) + (1 : Nat) : Int) = (4 - (r.length : Nat)) - 1 by omega,Int.mul_sub]; simp
    rw [e] at hs1 hs2
    have hl : r.length + 1 ≤ 4 := hl
    have hk : A * M * (4 - (r.length : Nat)) ≤ A * M * 4 := Int.mul_le_mul_of_nonneg_left (by omega) hAM0
    simp only [dotG,dp]
    rw [wrap64 (x := a * b) (by omega) (by omega),wrap64 (by omega) (by omega),dotG_dp hA hM hAM h1.2 h2.2 (by omega) (by omega) (by omega)]
    omega
theorem dot_dp {A M : Int} (hA : 0 ≤ A) (hM : 0 ≤ M) (hAM : A * M ≤ 1152921504606846976) {r x : List Int} (h1 : inB A r) (h2 : inB M x) (hl : r.length = 4) : dot r x = dp r x := by
  unfold dot
  rw [dotG_dp hA hM hAM h1 h2 (by omega) (by rw [hl]; simp) (by rw [hl]; simp)]
  omega
structure Rows4 (rows : List (List Int)) : Prop where
  len : ∀ r ∈ rows,r.length = 4
  bnd : ∀ r ∈ rows,inB 2 r
  two : rows.length ≤ 2
def moveB (rows : List (List Int)) (x : List Int) : Bool := rows.all fun r => dp r x == 0
def room (most : Int) (l : List Int) : Int := l.foldr (fun a s => ab a * most + s) 0
theorem room_snoc (most : Int) (a : Int) : ∀ l : List Int,room most (l ++ [a]) = room most l + ab a * most
  | [] => by simp [room]
  | b :: l => by
    have := room_snoc most a l
    simp only [room,List.cons_append,List.foldr_cons] at this ⊢
    omega
theorem dp_snoc (a b : Int) : ∀ {l m : List Int},l.length = m.length → dp (l ++ [a]) (m ++ [b]) = dp l m + a * b
  | [],[],_ => by simp [dp]
  | [],_ :: _,h => by simp at h
  | _ :: _,[],h => by simp at h
  | c :: l,d :: m,h => by
    have := dp_snoc a b (l := l) (m := m) (by simpa using h)
    simp only [dp,List.cons_append] at this ⊢
    omega
theorem inB_take {M : Int} {l : List Int} (h : inB M l) (k : Nat) : inB M (l.take k) := fun a ha => h a (List.mem_of_mem_take ha)
theorem take_snoc {l : List Int} {k : Nat} (h : k < l.length) : l.take (k + 1) = l.take k ++ [l.getD k 0] := by
  rw [List.take_add_one,List.getElem?_eq_getElem h,List.getD_eq_getElem?_getD,List.getElem?_eq_getElem h]; rfl
theorem room_bound {most A : Int} (hm : 0 ≤ most) (hA : 0 ≤ A) : ∀ {l : List Int},inB A l → 0 ≤ room most l ∧ room most l ≤ A * most * l.length
  | [],_ => by simp [room]
  | a :: l,h => by
    rw [inB_cons] at h
    have ih := room_bound (l := l) hm hA h.2
    have h1 : ab a ≤ A := ab_le.2 h.1
    have h2 := Int.mul_le_mul_of_nonneg_right h1 hm
    have h3 := Int.mul_nonneg (ab_nonneg a) hm
    have e : A * most * ((a :: l).length : Nat) = A * most * (l.length : Nat) + A * most := by
      rw [List.length_cons,Int.natCast_add,Int.mul_add]; simp
    rw [e]
    simp only [room,List.foldr_cons] at ih ⊢
    omega
def canR (n i : Nat) (most : Int) (x r : List Int) : Bool := decide (ab (dp (r.take (min i n)) (x.take (min i n))) ≤ room most ((r.take n).drop i))
def can (rows : List (List Int)) (n i : Nat) (most : Int) (x : List Int) : Bool := rows.all (canR n i most x)
def minors (a b : List Int) : List Int := (List.range 4).flatMap fun j => (List.range j).map fun i => a.getD i 0 * b.getD j 0 - a.getD j 0 * b.getD i 0
def mostOf (rows : List (List Int)) : Nat := match rows.filter (fun r => !(r == z4)) with
  | [] => 1
  | [_] => 3
  | a :: b :: _ => if (minors a b).all (fun d => !(d != 0)) then 3 else 16
def growL (rows : List (List Int)) (n : Nat) (most : Nat) : Nat → Nat → List Int → List (List Int)
  | 0,_,x => if (!(x == z4) && moveB rows x) = true then [x] else []
  | k + 1,i,x => (List.range (2 * most + 1)).flatMap fun (c : Nat) => if can rows n (i + 1) most (x.set i ((c : Int) - most)) then growL rows n most k (i + 1) (x.set i ((c : Int) - most)) else []
def size (x : List Int) : Int := ab (x.getD 0 0) + ab (x.getD 1 0) + ab (x.getD 2 0) + ab (x.getD 3 0)
def keepMin : List (List Int) → List (List Int) → List (List Int)
  | out,[] => out
  | out,x :: l => if out.any (fun y => fitR y x) then keepMin out l else keepMin (out ++ [x]) l
end Go.Abs.Sp
namespace Go.Abs.Sp
theorem mostOf_le (rows : List (List Int)) : 1 ≤ mostOf rows ∧ mostOf rows ≤ 16 := by
  unfold mostOf
  split
  · omega
  · omega
  · split <;> omega
theorem growL_mem {rows : List (List Int)} {n most : Nat} : ∀ (k i : Nat) {x y : List Int},x.length = 4 → inB most x → y ∈ growL rows n most k i x → y.length = 4 ∧ inB most y ∧ (∀ j,(j < i ∨ i + k ≤ j) → y.getD j 0 = x.getD j 0) ∧ y ≠ z4 ∧ moveB rows y = true
  | 0,i,x,y,hx,hb,hy => by
    unfold growL at hy
    split at hy
    · rename_i h
      simp only [List.mem_singleton] at hy
      subst hy
      simp only [Bool.and_eq_true,Bool.not_eq_true',beq_eq_false_iff_ne] at h
      exact ⟨hx,hb,fun _ _ => rfl,h.1,h.2⟩
    · cases hy
  | k + 1,i,x,y,hx,hb,hy => by
    unfold growL at hy
    obtain ⟨c,hc,hy⟩ := List.mem_flatMap.1 hy
    have hc := List.mem_range.1 hc
    split at hy
    · obtain ⟨h1,h2,h3,h4⟩ := growL_mem k (i + 1) (x := x.set i ((c : Int) - most)) (by simpa using hx) (fun a ha => by
        rcases List.mem_or_eq_of_mem_set ha with ha | rfl
        · exact hb a ha
        · omega) hy
      refine ⟨h1,h2,fun j hj => ?_,h4⟩
      rw [h3 j (by omega),List.getD_eq_getElem?_getD,List.getD_eq_getElem?_getD,List.getElem?_set_ne (by omega)]
    · cases hy
theorem flatMap_len {α β : Type} {f : α → List β} {B : Nat} : ∀ (l : List α),(∀ a ∈ l,(f a).length ≤ B) → (l.flatMap f).length ≤ l.length * B
  | [],_ => by simp
  | a :: l,h => by
    have h1 := flatMap_len (f := f) (B := B) l (fun b hb => h b (by simp [hb]))
    have h2 := h a (by simp)
    rw [List.flatMap_cons,List.length_append,List.length_cons,Nat.succ_mul]; omega
theorem growL_len {rows : List (List Int)} {n most : Nat} : ∀ (k i : Nat) (x : List Int),(growL rows n most k i x).length ≤ (2 * most + 1) ^ k
  | 0,i,x => by unfold growL; split <;> simp
  | k + 1,i,x => by
    unfold growL
    refine Nat.le_trans (flatMap_len (B := (2 * most + 1) ^ k) _ fun c _ => ?_) (by rw [List.length_range,Nat.pow_succ,Nat.mul_comm]; exact Nat.le_refl _)
    split
    · exact growL_len k _ _
    · exact Nat.zero_le _
def movesL (rows : List (List Int)) (n : Nat) : List (List Int) := growL rows n (mostOf rows) n 0 z4
theorem movesL_len {rows : List (List Int)} {n : Nat} (hn : n ≤ 4) : (movesL rows n).length ≤ 1185921 := by
  have h1 := growL_len (rows := rows) (n := n) (most := mostOf rows) n 0 z4
  have h2 := (mostOf_le rows).2
  have h3 : (2 * mostOf rows + 1) ^ n ≤ 33 ^ n := Nat.pow_le_pow_left (by omega) n
  have h4 : 33 ^ n ≤ 33 ^ 4 := Nat.pow_le_pow_right (by decide) hn
  unfold movesL; omega
theorem z4_in (M : Int) (h : 0 ≤ M) : inB M z4 := fun a ha => by simp [z4] at ha; omega
theorem fitG_fitR {x y : List Int} (h : x.length = y.length) (hx : inB 1000 x) (hy : inB 1000 y) : fitG x y = fitR x y := by
  have num : ∀ {l : List Int},inB 1000 l → numbers l (-1000) 1000 = true := fun {l} hl => by
    unfold numbers
    rw [List.all_eq_true]
    intro a ha
    have := hl a ha
    simp [this]
  have := fitG_app 0 x y h (num hx) (num hy)
  simpa using this
end Go.Abs.Sp
