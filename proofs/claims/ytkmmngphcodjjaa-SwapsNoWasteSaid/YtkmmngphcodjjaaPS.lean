/- Swaps,plain: the deal of trading is the only one that no set blocks. -/
import Derived.Test.YtkmmngphcodjjaaBJ
namespace Go.Abs.Sp
open AVal
theorem mem_comps {n : Nat} (hn : n ≤ 6) {set : Int} : ∀ (m i : Nat) (left : Int) (pre : List Int),i + m = n → isSet left → pre.length = i → ∀ o,o ∈ comps n set m i left pre → o.length = n ∧ o.take i = pre ∧
    (∀ j,i ≤ j → j < n → outS set j = false → ∃ c : Nat,c < n ∧ o.getD j 0 = c ∧ has left c = true) ∧ ∀ j k,i ≤ j → j < k → k < n → outS set j = false → outS set k = false → o.getD j 0 ≠ o.getD k 0
  | 0,i,left,pre,him,_,hp,o,ho => by
    simp only [comps,List.mem_singleton] at ho
    subst ho
    exact ⟨by omega,List.take_of_length_le (by omega),fun j h1 h2 => by omega,fun j k h1 h2 h3 => by omega⟩
  | m + 1,i,left,pre,him,hl,hp,o,ho => by
    rw [comps] at ho
    by_cases hb : (bitAt set i == 0) = true
    · rw [if_pos hb] at ho
      obtain ⟨h1,h2,h3,h4⟩ := mem_comps hn m (i + 1) left (pre ++ [0]) (by omega) hl (by simp; omega) o ho
      have hi : ∀ j,i ≤ j → outS set j = false → i + 1 ≤ j := fun j hj ho => by
        by_cases e : j = i
        · rw [e,show outS set i = true from hb] at ho; cases ho
        · omega
      refine ⟨h1,?_,fun j hj hjn hjo => h3 j (hi j hj hjo) hjn hjo,fun j k hj hjk hkn hjo hko => h4 j k (hi j hj hjo) hjk hkn hjo hko⟩
      have := congrArg (List.take i) h2
      rwa [List.take_take,show min i (i + 1) = i by omega,List.take_append_of_le_length (by omega),List.take_of_length_le (l := pre) (by omega)] at this
    · rw [if_neg hb,List.mem_flatMap] at ho
      obtain ⟨c,hc,ho⟩ := ho
      have hc := List.mem_range.1 hc
      split at ho
      case isFalse => cases ho
      rename_i hbit
      have hsc := shl_set c (by omega)
      obtain ⟨h1,h2,h3,h4⟩ := mem_comps hn m (i + 1) (butI left (shl1 c)) (pre ++ [(c : Int)]) (by omega) (but_set hl hsc.1) (by simp; omega) o ho
      have hoi : o.getD i 0 = c := by
        have := congrArg (fun l => l.getD i 0) h2
        simp only [List.getD_eq_getElem?_getD,List.getElem?_take,show i < i + 1 by omega,if_true,List.getElem?_append_right (show pre.length ≤ i by omega),hp,Nat.sub_self,List.getElem?_cons_zero,Option.getD_some] at this
        rw [List.getD_eq_getElem?_getD]; exact this
      have h3' : ∀ j,i + 1 ≤ j → j < n → outS set j = false → ∃ c' : Nat,c' < n ∧ o.getD j 0 = c' ∧ has left c' = true ∧ c' ≠ c := fun j hj hjn hjo => by
        obtain ⟨c',e1,e2,e3⟩ := h3 j hj hjn hjo
        rw [has_but hl hsc.1 (by omega),hsc.2 c' (by omega)] at e3
        simp at e3
        exact ⟨c',e1,e2,e3.1,e3.2⟩
      refine ⟨h1,?_,fun j hj hjn hjo => ?_,fun j k hj hjk hkn hjo hko => ?_⟩
      · have := congrArg (List.take i) h2
        rwa [List.take_take,show min i (i + 1) = i by omega,List.take_append_of_le_length (by omega),List.take_of_length_le (l := pre) (by omega)] at this
      · by_cases e : j = i
        · subst e; exact ⟨c,hc,hoi,hbit⟩
        · obtain ⟨c',e1,e2,e3,_⟩ := h3' j (by omega) hjn hjo
          exact ⟨c',e1,e2,e3⟩
      · by_cases e : j = i
        · subst e
          obtain ⟨c',e1,e2,_,e4⟩ := h3' k (by omega) hkn hko
          rw [hoi,e2]; omega
        · exact h4 j k (by omega) hjk hkn hjo hko
theorem onto_of {n : Nat} {f : Nat → Nat} {P : Nat → Prop} (h : ∀ i,i < n → P i → f i < n ∧ P (f i)) (hinj : ∀ i j,i < n → j < n → P i → P j → f i = f j → i = j) {j : Nat} (hj : j < n) (hp : P j) : ∃ i,i < n ∧ P i ∧ f i = j := by
  let g : Nat → Nat := fun k => Nat.rec j (fun _ x => f x) k
  have hg : ∀ k,g k < n ∧ P (g k) := fun k => by
    induction k with
    | zero => exact ⟨hj,hp⟩
    | succ k ih => exact h _ ih.1 ih.2
  obtain ⟨a,b,hab,_,e⟩ := pigeon n g fun k _ => (hg k).1
  have back : ∀ a b,a < b → g a = g b → ∃ i,i < n ∧ P i ∧ f i = j := by
    intro a
    induction a with
    | zero =>
      intro b hb e
      obtain ⟨b',rfl⟩ : ∃ b',b = b' + 1 := ⟨b - 1,by omega⟩
      exact ⟨g b',(hg b').1,(hg b').2,e.symm⟩
    | succ a ih =>
      intro b hb e
      obtain ⟨b',rfl⟩ : ∃ b',b = b' + 1 := ⟨b - 1,by omega⟩
      exact ih b' (by omega) (hinj _ _ (hg a).1 (hg b').1 (hg a).2 (hg b').2 e)
  exact back a b hab e
theorem fin_round {w : List (List Int)} (g : Good w) {i : Nat} (hi : i < w.length) : ∃ t : Nat,t < w.length ∧ (fin w).1.getD i 0 = t ∧ (fin w).2.getD t 0 = (fin w).2.getD i 0 ∧ 1 ≤ (fin w).2.getD i 0 := by
  obtain ⟨a⟩ := round_of g hi
  exact ⟨a.t,a.ht,a.d,by rw [a.same,a.r],by rw [a.r]; omega⟩
theorem pos_inj {w : List (List Int)} (g : Good w) {i a b : Nat} (hi : i < w.length) (ha : a < w.length) (hb : b < w.length) (h : pos w i a = pos w i b) : a = b := by
  have hm : w.getD i [] ∈ w := getD_mem hi
  have h1 := idx_get (d := 0) (idx_pos (p := fun x => x == (a : Int)) ⟨_,g.cov _ hm a ha,by simp⟩)
  have h2 := idx_get (d := 0) (idx_pos (p := fun x => x == (b : Int)) ⟨_,g.cov _ hm b hb,by simp⟩)
  unfold pos at h
  rw [h] at h1
  rw [beq_iff_eq] at h1 h2
  omega
theorem worse_zero {w : List (List Int)} {set : Int} {a b : List Int} {k : Nat} : worseN w set a b k = 0 ↔ ∀ i,i < k → outS set i = false → pos w i (a.getD i 0) ≤ pos w i (b.getD i 0) := by
  rw [worseN,List.countP_eq_zero]
  simp only [List.mem_range,lessAt,Bool.and_eq_true,Bool.not_eq_true',decide_eq_true_eq,not_and]
  refine forall_congr' fun i => imp_congr_right fun _ => imp_congr_right fun _ => ?_
  omega
theorem better_pos {w : List (List Int)} {set : Int} {a b : List Int} {k : Nat} : 0 < betterN w set a b k ↔ ∃ i,i < k ∧ outS set i = false ∧ pos w i (a.getD i 0) < pos w i (b.getD i 0) := by
  rw [betterN,List.countP_pos_iff]
  simp only [List.mem_range,lessAt,Bool.and_eq_true,Bool.not_eq_true',decide_eq_true_eq]
theorem trade_free {w : List (List Int)} (g : Good w) {set : Int} (hs : isSet set) {st : Bool} {o : List Int} (ho : o ∈ comps w.length set w.length 0 set []) : blkP w (fin w).1 set st o = false := by
  cases hb : blkP w (fin w).1 set st o with
  | false => rfl
  | true =>
    exfalso
    rw [blkP,Bool.and_eq_true,beq_iff_eq,Bool.and_eq_true,decide_eq_true_eq,worse_zero,better_pos] at hb
    obtain ⟨hw,⟨i0,hi0,ho0,hlt⟩,_⟩ := hb
    obtain ⟨-,-,h3,h4⟩ := mem_comps g.n6 w.length 0 set [] (by omega) hs rfl o ho
    have bit : ∀ j,j < w.length → (outS set j = false ↔ has set j = true) := fun j hj => by
      rw [outS,bit_zero hs (show j < 6 by have := g.n6; omega)]; simp
    have key : ∀ r : Nat,∀ i,i < w.length → outS set i = false → (fin w).2.getD i 0 ≤ r → o.getD i 0 = (fin w).1.getD i 0 := by
      intro r
      induction r with
      | zero => intro i hi _ hr; have := (fin_round g hi).choose_spec.2.2.2; omega
      | succ r ih =>
        intro i hi hio hr
        by_cases hle : (fin w).2.getD i 0 ≤ r
        · exact ih i hi hio hle
        obtain ⟨t,ht,et,er,_⟩ := fin_round g hi
        obtain ⟨c,hc,ec,hcs⟩ := h3 i (by omega) hi hio
        rw [ec,et]
        refine Classical.byContradiction fun hne => ?_
        have hwi := hw i hi hio
        rw [ec,et] at hwi
        have hlt : (fin w).2.getD c 0 < (fin w).2.getD i 0 := by
          refine Int.not_le.1 fun hge => ?_
          have := round_pos g hi hc hge
          rw [et] at this
          have := pos_inj g hi hc ht (by omega)
          omega
        -- whoever has the card by trading is one of the set,and has it there
        obtain ⟨k,hk,⟨hko,hkr⟩,hkt⟩ := onto_of (n := w.length) (f := fun j => ((fin w).1.getD j 0).toNat) (P := fun j => outS set j = false ∧ (fin w).2.getD j 0 = (fin w).2.getD c 0) (fun j hj hp => by
            obtain ⟨t',ht',et',er',_⟩ := fin_round g hj
            have hoj := ih j hj hp.1 (by omega)
            obtain ⟨c',hc',ec',hcs'⟩ := h3 j (by omega) hj hp.1
            rw [et',Int.toNat_natCast]
            rw [ec',et'] at hoj
            obtain rfl : c' = t' := by omega
            exact ⟨ht',(bit _ ht').2 hcs',by rw [er',hp.2]⟩)
          (fun a b ha hb _ _ e => by
            obtain ⟨ta,hta,ea,_⟩ := fin_round g ha
            obtain ⟨tb,htb,eb,_⟩ := fin_round g hb
            refine fin_inj g ha hb ?_
            rw [ea,eb,Int.toNat_natCast,Int.toNat_natCast] at e
            rw [ea,eb,e]) hc ⟨(bit c hc).2 hcs,rfl⟩
        have hok := ih k hk hko (by omega)
        obtain ⟨tk,htk,etk,_⟩ := fin_round g hk
        rw [etk,Int.toNat_natCast] at hkt
        have hki : k ≠ i := fun e => by subst e; omega
        rw [etk,hkt] at hok
        rcases Nat.lt_or_gt_of_ne hki with h | h
        · exact h4 k i (by omega) h hi hko hio (by rw [hok,ec])
        · exact h4 i k (by omega) h hk hio hko (by rw [hok,ec])
    obtain ⟨_,_,_,_,h1⟩ := fin_round g hi0
    have := key ((fin w).2.getD i0 0).toNat i0 hi0 ho0 (by omega)
    rw [this] at hlt
    omega
end Go.Abs.Sp
