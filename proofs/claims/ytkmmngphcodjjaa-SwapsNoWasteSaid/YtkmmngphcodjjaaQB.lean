/- Swaps,plain: what wastes nothing. -/
import Derived.Test.YtkmmngphcodjjaaPU
import Derived.Test.YtkmmngphcodjjaaPR
namespace Go.Abs.Sp
open AVal
open Go.Proofs.Ytkmmngphcodjjaa (order_inj order_of)
def noW (w : List (List Int)) (d : List Int) : Prop := ∀ o,isOrder o w.length = true → (∀ i : Nat,i < w.length → pos w i (o.getD i 0) ≤ pos w i (d.getD i 0)) → ∀ i : Nat,i < w.length → ¬ pos w i (o.getD i 0) < pos w i (d.getD i 0)
theorem noW_iff {w : List (List Int)} {d : List Int} (h6 : w.length ≤ 6) : (allDeals w.length).find? (blkP w d (fullS w.length) false) = none ↔ noW w d := by
  rw [List.find?_eq_none]
  constructor
  · intro h o ho hle i hi hlt
    exact h o (order_mem h6 ho) ((waste_iff h6).2 ⟨hle,i,hi,hlt⟩)
  · intro h o ho hb
    obtain ⟨h1,i,hi,h2⟩ := (waste_iff h6).1 hb
    exact h o (all_order h6 ho) h1 i hi h2
theorem noW_trade {w : List (List Int)} (g : Good w) : noW w (fin w).1 := by
  rw [← noW_iff g.n6,List.find?_eq_none]
  intro o ho hb
  rw [← comps_all g.n6] at ho
  rw [trade_free g (full_set g.n6).1 ho] at hb
  cases hb
theorem best_min {w : List (List Int)} (g : Good w) {left : Int} {i c : Nat} (hi : i < w.length) (hc : c < w.length) (hb : has left c = true) : pos w i (bestAt w i left) ≤ pos w i c := by
  have hm : (c : Int) ∈ w.getD i [] := g.cov _ (getD_mem hi) c hc
  have hp : (fun c : Int => bitAt left c == 1) (c : Int) = true := hb
  have h0 := idx_pos (p := fun c => bitAt left c == 1) ⟨(c : Int),hm,hp⟩
  have h1 := idx_self (p := fun c => bitAt left c == 1) (xs := w.getD i []) h0
  have h2 := idx_le (p := fun c => bitAt left c == 1) hp hm
  exact Int.le_trans h1 h2
theorem turns_keep (w : List (List Int)) {j : Nat} : ∀ (r : List Int) (left : Int) (D : List Int),(∀ i ∈ r,i.toNat ≠ j) → (turnsG w r left D).getD j 0 = D.getD j 0
  | [],_,_,_ => rfl
  | i :: r,left,D,h => by
    unfold turnsG
    rw [turns_keep w r _ _ fun k hk => h k (by simp [hk])]
    rw [List.getD_eq_getElem?_getD,List.getD_eq_getElem?_getD,List.getElem?_set_ne (h i (by simp))]
structure Deal (n : Nat) (r : List Int) (left : Int) (x : List Int) : Prop where
  rng : ∀ i ∈ r,∃ c : Nat,c < n ∧ x.getD i.toNat 0 = c ∧ has left c = true
  inj : ∀ i ∈ r,∀ j ∈ r,i ≠ j → x.getD i.toNat 0 ≠ x.getD j.toNat 0
theorem turns_main {w : List (List Int)} (g : Good w) : ∀ (r : List Int) (left : Int) (D : List Int),D.length = w.length → r.Nodup → (∀ i ∈ r,0 ≤ i ∧ i < w.length) → Left w.length left r.length →
    Deal w.length r left (turnsG w r left D) ∧ ∀ x,Deal w.length r left x → (∀ i ∈ r,pos w i.toNat (x.getD i.toNat 0) ≤ pos w i.toNat ((turnsG w r left D).getD i.toNat 0)) → ∀ i ∈ r,x.getD i.toNat 0 = (turnsG w r left D).getD i.toNat 0
  | [],_,_,_,_,_,_ => ⟨⟨fun i hi => (by cases hi),fun i hi => (by cases hi)⟩,fun x _ _ i hi => (by cases hi)⟩
  | k :: r,left,D,hD,hnd,hr,hL => by
    obtain ⟨hk0,hkn⟩ := hr k (by simp)
    have hkn' : k.toNat < w.length := by omega
    obtain ⟨c,hc,hbc,hlc⟩ := Left.best g (k := r.length) hL hkn'
    have h6 := g.n6
    have hc6 : c < 6 := by omega
    have hs := shl_set c hc6
    have hnd' := List.nodup_cons.1 hnd
    obtain ⟨ih1,ih2⟩ := turns_main g r (butI left (shl1 (bestAt w k.toNat left))) (D.set k.toNat (bestAt w k.toNat left)) (by simp [hD]) hnd'.2 (fun i hi => hr i (by simp [hi])) (by rw [hbc]; exact Left.step hL hc6)
    have hkr : ∀ i ∈ r,i.toNat ≠ k.toNat := fun i hi e => by
      have := hr i (by simp [hi])
      have : i = k := by omega
      subst this
      exact hnd'.1 hi
    have hU : turnsG w (k :: r) left D = turnsG w r (butI left (shl1 (bestAt w k.toNat left))) (D.set k.toNat (bestAt w k.toNat left)) := rfl
    have hUk : (turnsG w (k :: r) left D).getD k.toNat 0 = c := by
      rw [hU,turns_keep w r _ _ hkr,List.getD_eq_getElem?_getD,List.getElem?_set_self (by omega),hbc]; rfl
    rw [hbc] at ih1 ih2 hU
    obtain ⟨U,hUe⟩ : ∃ U,turnsG w (k :: r) left D = U := ⟨_,rfl⟩
    rw [hUe] at hU hUk ⊢
    rw [← hU] at ih1 ih2
    have hbut : ∀ e : Nat,e < 6 → has (butI left (shl1 c)) e = true → has left e = true ∧ e ≠ c := fun e he h => by
      rw [has_but hL.set hs.1 he,hs.2 e he] at h
      simpa using h
    constructor
    · constructor
      · intro i hi
        rcases List.mem_cons.1 hi with rfl | hi
        · exact ⟨c,hc,hUk,hlc⟩
        · obtain ⟨e,h1,h2,h3⟩ := ih1.rng i hi
          exact ⟨e,h1,h2,(hbut e (by omega) h3).1⟩
      · intro i hi j hj hij
        rcases List.mem_cons.1 hi with ei | hi2 <;> rcases List.mem_cons.1 hj with ej | hj2
        · exact absurd (ei.trans ej.symm) hij
        · obtain ⟨e,h1,h2,h3⟩ := ih1.rng j hj2
          rw [ei,hUk,h2]
          have := (hbut e (by omega) h3).2
          omega
        · obtain ⟨e,h1,h2,h3⟩ := ih1.rng i hi2
          rw [ej,hUk,h2]
          have := (hbut e (by omega) h3).2
          omega
        · exact ih1.inj i hi2 j hj2 hij
    · intro x hx hle
      have hxk : x.getD k.toNat 0 = c := by
        obtain ⟨e,h1,h2,h3⟩ := hx.rng k (by simp)
        have h4 := hle k (by simp)
        rw [hUk,h2] at h4
        have h5 := best_min g hkn' h1 h3
        rw [hbc] at h5
        rw [h2,pos_inj g hkn' h1 hc (Int.le_antisymm h4 h5)]
      have hx' : Deal w.length r (butI left (shl1 c)) x := by
        constructor
        · intro i hi
          obtain ⟨e,h1,h2,h3⟩ := hx.rng i (by simp [hi])
          refine ⟨e,h1,h2,?_⟩
          rw [has_but hL.set hs.1 (by omega),h3,hs.2 e (by omega)]
          have hne := hx.inj i (by simp [hi]) k (by simp) fun e => hnd'.1 (e ▸ hi)
          rw [hxk,h2] at hne
          have : e ≠ c := fun h => hne (by rw [h])
          simp [this]
        · exact fun i hi j hj => hx.inj i (by simp [hi]) j (by simp [hj])
      intro i hi
      rcases List.mem_cons.1 hi with rfl | hi
      · rw [hxk,hUk]
      · exact ih2 x hx' (fun j hj => hle j (by simp [hj])) i hi
theorem full_has {n : Nat} (hn : n ≤ 6) {c : Nat} (hc : c < n) : has (fullS n) c = true := by rw [fullS,(full_dec n (by omega)).2 c (by omega)]; simp [hc]
theorem deal_of {n : Nat} (hn : n ≤ 6) {o x : List Int} (ho : isOrder o n = true) (hx : isOrder x n = true) : Deal n o (fullS n) x := by
  obtain ⟨hl,hr,-⟩ := order_spec hn ho
  obtain ⟨xl,xr,xi⟩ := order_inj hn hx
  constructor
  · intro i hi
    have := hr i hi
    obtain ⟨c,hc,e⟩ := xr i.toNat (by omega)
    exact ⟨c,hc,e,full_has hn hc⟩
  · intro i hi j hj hij e
    have h1 := hr i hi
    have h2 := hr j hj
    have := xi i.toNat j.toNat (by omega) (by omega) e
    omega
theorem order_nodup {n : Nat} (hn : n ≤ 6) {o : List Int} (ho : isOrder o n = true) : o.Nodup := by
  obtain ⟨hl,hr,hi⟩ := order_inj hn ho
  rw [List.nodup_iff_pairwise_ne,List.pairwise_iff_getElem]
  intro i j h1 h2 hij e
  have := hi i j (by omega) (by omega) (by rw [List.getD_eq_getElem?_getD,List.getD_eq_getElem?_getD,List.getElem?_eq_getElem h1,List.getElem?_eq_getElem h2,e])
  omega
theorem turns_order {w : List (List Int)} (g : Good w) {o : List Int} (ho : isOrder o w.length = true) : isOrder (turnsP w o) w.length = true ∧ noW w (turnsP w o) := by
  have h6 := g.n6
  obtain ⟨hl,hr,hcov⟩ := order_spec h6 ho
  obtain ⟨h1,h2⟩ := turns_main g o (fullS w.length) (List.replicate w.length 0) (by simp) (order_nodup h6 ho) hr (by rw [hl]; exact left_full h6)
  have hU : turnsG w o (fullS w.length) (List.replicate w.length 0) = turnsP w o := rfl
  rw [hU] at h1 h2
  have hUl := turnsP_len w o
  constructor
  · refine order_of h6 hUl (fun x hx => ?_) ?_
    · obtain ⟨i,hi,rfl⟩ := List.getElem_of_mem hx
      obtain ⟨c,hc,e,-⟩ := h1.rng i (hcov i (by omega))
      rw [Int.toNat_natCast,List.getD_eq_getElem?_getD,List.getElem?_eq_getElem hi,Option.getD_some] at e
      omega
    · rw [List.nodup_iff_pairwise_ne,List.pairwise_iff_getElem]
      intro i j hi hj hij e
      have := h1.inj i (hcov i (by omega)) j (hcov j (by omega)) (by omega)
      rw [Int.toNat_natCast,Int.toNat_natCast,List.getD_eq_getElem?_getD,List.getD_eq_getElem?_getD,List.getElem?_eq_getElem hi,List.getElem?_eq_getElem hj] at this
      exact this e
  · intro x hx hle i hi hlt
    have := h2 x (deal_of h6 ho hx) (fun k hk => by
      have := hr k hk
      exact hle k.toNat (by omega)) i (hcov i hi)
    rw [Int.toNat_natCast] at this
    rw [this] at hlt
    omega
/-! ### Whoever wastes nothing can be served one after the other. -/
def itN (f : Nat → Nat) : Nat → Nat → Nat
  | 0,a => a
  | m + 1,a => itN f m (f a)
theorem itN_add (f : Nat → Nat) : ∀ (m k a : Nat),itN f (m + k) a = itN f k (itN f m a)
  | 0,k,a => by rw [Nat.zero_add]; rfl
  | m + 1,k,a => by
    rw [show m + 1 + k = (m + k) + 1 by omega]
    exact itN_add f m k (f a)
theorem itN_mul {f : Nat → Nat} {m a : Nat} (h : itN f m a = a) : ∀ k,itN f (m * k) a = a
  | 0 => rfl
  | k + 1 => by rw [Nat.mul_succ,itN_add,itN_mul h k,h]
def Per (f : Nat → Nat) (a : Nat) : Prop := ∃ m,1 ≤ m ∧ itN f m a = a
theorem Per.next {f : Nat → Nat} {a : Nat} (h : Per f a) : Per f (f a) := by
  obtain ⟨m,hm,e⟩ := h
  refine ⟨m,hm,?_⟩
  have : itN f (m + 1) a = f a := by rw [itN_add,e]; rfl
  exact this
theorem Per.inj {f : Nat → Nat} {a b : Nat} (ha : Per f a) (hb : Per f b) (h : f a = f b) : a = b := by
  obtain ⟨m,hm,ea⟩ := ha
  obtain ⟨k,hk,eb⟩ := hb
  have h1 := itN_mul ea k
  have h2 := itN_mul eb m
  have hpos : 1 ≤ m * k := Nat.mul_pos hm hk
  obtain ⟨N,hN⟩ : ∃ N,m * k = N + 1 := ⟨m * k - 1,by omega⟩
  rw [hN] at h1
  rw [Nat.mul_comm,hN] at h2
  have e1 : itN f N (f a) = a := h1
  have e2 : itN f N (f b) = b := h2
  rw [← e1,← e2,h]
theorem per_ex {n : Nat} {f : Nat → Nat} {P : Nat → Prop} (hf : ∀ a,P a → P (f a)) (hP : ∀ a,P a → a < n) {a : Nat} (ha : P a) : ∃ b,P b ∧ Per f b := by
  have hit : ∀ m b,P b → P (itN f m b) := by
    intro m
    induction m with
    | zero => exact fun b h => h
    | succ m ih => exact fun b h => ih _ (hf _ h)
  obtain ⟨i,j,hij,-,e⟩ := pigeon n (fun k => itN f k a) fun k _ => hP _ (hit k a ha)
  refine ⟨itN f i a,hit i a ha,j - i,by omega,?_⟩
  have e : itN f i a = itN f j a := e
  rw [← itN_add,show i + (j - i) = j by omega,← e]
theorem top_ex {w : List (List Int)} (g : Good w) {d : List Int} (hd : isOrder d w.length = true) (hw : noW w d) {R : List Int} {left : Int} (hR : ∀ i ∈ R,0 ≤ i ∧ i < w.length) (hne : R ≠ [])
    (hL : Left w.length left R.length) (hleft : ∀ c : Nat,c < w.length → (has left c = true ↔ ∃ i ∈ R,d.getD i.toNat 0 = c)) : ∃ i ∈ R,bestAt w i.toNat left = d.getD i.toNat 0 := by
  classical
  apply Classical.byContradiction
  intro hno
  have h6 := g.n6
  obtain ⟨dl,dr,di⟩ := order_inj h6 hd
  obtain ⟨k,hk⟩ : ∃ k,R.length = k + 1 := ⟨R.length - 1,by have := List.length_pos_iff.2 hne; omega⟩
  rw [hk] at hL
  let P : Nat → Prop := fun a => (a : Int) ∈ R
  have hPn : ∀ a,P a → a < w.length := fun a h => by have := hR _ h; omega
  have hstep : ∀ a,P a → ∃ b,P b ∧ d.getD b 0 = bestAt w a left ∧ pos w a (d.getD b 0) < pos w a (d.getD a 0) := fun a ha => by
    have han := hPn a ha
    obtain ⟨c,hc,hb,hl⟩ := Left.best g hL han
    obtain ⟨i,hi,e⟩ := (hleft c hc).1 hl
    have hi' := hR i hi
    have hii : ((i.toNat : Nat) : Int) = i := by omega
    refine ⟨i.toNat,by show ((i.toNat : Nat) : Int) ∈ R; rw [hii]; exact hi,by rw [e,hb],?_⟩
    obtain ⟨e',he',hde⟩ := dr a han
    have hla : has left e' = true := (hleft e' he').2 ⟨a,ha,by rw [Int.toNat_natCast]; exact hde⟩
    have hmin := best_min g han he' hla
    rw [hb] at hmin
    rw [e,hde]
    have hne' : pos w a c ≠ pos w a e' := fun h => hno ⟨a,ha,by rw [Int.toNat_natCast,hb,hde,pos_inj g han hc he' h]⟩
    omega
  let f : Nat → Nat := fun a => if h : P a then (hstep a h).choose else a
  have hf : ∀ a,P a → P (f a) ∧ pos w a (d.getD (f a) 0) < pos w a (d.getD a 0) := fun a ha => by
    have e : f a = (hstep a ha).choose := dif_pos ha
    rw [e]
    exact ⟨(hstep a ha).choose_spec.1,(hstep a ha).choose_spec.2.2⟩
  obtain ⟨r,hr⟩ := List.exists_mem_of_ne_nil R hne
  have hr' := hR r hr
  obtain ⟨b,hb,hper⟩ := per_ex (n := w.length) (f := f) (P := P) (fun a ha => (hf a ha).1) hPn (a := r.toNat) (by show ((r.toNat : Nat) : Int) ∈ R; rw [show ((r.toNat : Nat) : Int) = r by omega]; exact hr)
  let X : Nat → Nat := fun a => if P a ∧ Per f a then f a else a
  have hXn : ∀ a,a < w.length → X a < w.length := fun a ha => by
    show (if P a ∧ Per f a then f a else a) < _
    split
    · rename_i h; exact hPn _ (hf a h.1).1
    · exact ha
  have hXi : ∀ a c,X a = X c → a = c := fun a c h => by
    have h : (if P a ∧ Per f a then f a else a) = (if P c ∧ Per f c then f c else c) := h
    split at h <;> split at h
    · rename_i h1 h2; exact Per.inj h1.2 h2.2 h
    · rename_i h1 h2; exact absurd ⟨h ▸ (hf a h1.1).1,h ▸ h1.2.next⟩ h2
    · rename_i h1 h2; exact absurd ⟨h.symm ▸ (hf c h2.1).1,h.symm ▸ h2.2.next⟩ h1
    · exact h
  have hxl : ((List.range w.length).map fun a => d.getD (X a) 0).length = w.length := by simp
  have hxg : ∀ a,a < w.length → ((List.range w.length).map fun a => d.getD (X a) 0).getD a 0 = d.getD (X a) 0 := fun a ha => by
    rw [List.getD_eq_getElem?_getD,List.getElem?_map,List.getElem?_range ha]; rfl
  have hxo : isOrder ((List.range w.length).map fun a => d.getD (X a) 0) w.length = true := by
    refine order_of h6 hxl (fun x hx => ?_) ?_
    · obtain ⟨a,ha,rfl⟩ := List.mem_map.1 hx
      obtain ⟨c,hc,e⟩ := dr (X a) (hXn a (List.mem_range.1 ha))
      rw [e]; omega
    · rw [List.nodup_iff_pairwise_ne,List.pairwise_map]
      refine (List.nodup_iff_pairwise_ne.1 List.nodup_range).imp_of_mem fun {a c} ha hc hne' e => hne' ?_
      exact hXi a c (di _ _ (hXn a (List.mem_range.1 ha)) (hXn c (List.mem_range.1 hc)) e)
  refine hw _ hxo (fun a ha => ?_) b (hPn b hb) ?_
  · rw [hxg a ha]
    show pos w a (d.getD (if P a ∧ Per f a then f a else a) 0) ≤ _
    split
    · rename_i h; have := (hf a h.1).2; omega
    · exact Int.le_refl _
  · rw [hxg b (hPn b hb)]
    show pos w b (d.getD (if P b ∧ Per f b then f b else b) 0) < _
    rw [if_pos ⟨hb,hper⟩]
    exact (hf b hb).2
theorem serial {w : List (List Int)} (g : Good w) {d : List Int} (hd : isOrder d w.length = true) (hw : noW w d) : ∀ (k : Nat) (R : List Int) (left : Int) (D : List Int),R.length = k → R.Nodup → (∀ i ∈ R,0 ≤ i ∧ i < w.length) → D.length = w.length → Left w.length left k →
    (∀ c : Nat,c < w.length → (has left c = true ↔ ∃ i ∈ R,d.getD i.toNat 0 = c)) → (∀ j : Nat,j < w.length → (j : Int) ∉ R → D.getD j 0 = d.getD j 0) → ∃ r,r.Perm R ∧ turnsG w r left D = d
  | 0,R,left,D,hk,_,_,hDl,_,_,hD => by
    obtain rfl := List.length_eq_zero_iff.1 hk
    obtain ⟨dl,-,-⟩ := order_inj g.n6 hd
    refine ⟨[],List.Perm.refl _,?_⟩
    show D = d
    refine List.ext_getElem (by omega) fun j h1 h2 => ?_
    have := hD j (by omega) (by simp)
    rwa [List.getD_eq_getElem?_getD,List.getD_eq_getElem?_getD,List.getElem?_eq_getElem h1,List.getElem?_eq_getElem h2] at this
  | k + 1,R,left,D,hk,hnd,hR,hDl,hL,hleft,hD => by
    have h6 := g.n6
    obtain ⟨dl,dr,di⟩ := order_inj h6 hd
    obtain ⟨i,hi,hb⟩ := top_ex g hd hw hR (fun e => by rw [e] at hk; simp at hk) (by rw [hk]; exact hL) hleft
    obtain ⟨hi0,hin⟩ := hR i hi
    obtain ⟨c,hc,e⟩ := dr i.toNat (by omega)
    have hc6 : c < 6 := by omega
    have hs := shl_set c hc6
    have hmem : ∀ j,j ∈ R.erase i ↔ j ≠ i ∧ j ∈ R := fun j => hnd.mem_erase_iff
    obtain ⟨r,hr,ht⟩ := serial g hd hw k (R.erase i) (butI left (shl1 c)) (D.set i.toNat c) (by rw [List.length_erase_of_mem hi,hk]; rfl) (hnd.erase i) (fun j hj => hR j ((hmem j).1 hj).2) (by simp [hDl]) (Left.step hL hc6)
      (fun a ha => by
        rw [has_but hL.set hs.1 (by omega),hs.2 a (by omega),Bool.and_eq_true,hleft a ha]
        constructor
        · rintro ⟨⟨j,hj,hja⟩,hne⟩
          refine ⟨j,(hmem j).2 ⟨fun e' => ?_,hj⟩,hja⟩
          subst e'
          rw [e] at hja
          simp at hne
          omega
        · rintro ⟨j,hj,hja⟩
          obtain ⟨h1,h2⟩ := (hmem j).1 hj
          refine ⟨⟨j,h2,hja⟩,?_⟩
          have hj' := hR j h2
          have : a ≠ c := fun h => by
            subst h
            have := di j.toNat i.toNat (by omega) (by omega) (by rw [hja,e])
            omega
          simp [this])
      (fun j hj hjn => by
        by_cases hji : j = i.toNat
        · subst hji
          rw [List.getD_eq_getElem?_getD,List.getElem?_set_self (by omega),e]; rfl
        · rw [List.getD_eq_getElem?_getD,List.getElem?_set_ne (Ne.symm hji),← List.getD_eq_getElem?_getD]
          exact hD j hj fun hjR => hjn ((hmem j).2 ⟨by omega,hjR⟩))
    refine ⟨i :: r,(List.Perm.cons i hr).trans (List.perm_cons_erase hi).symm,?_⟩
    show turnsG w r (butI left (shl1 (bestAt w i.toNat left))) (D.set i.toNat (bestAt w i.toNat left)) = d
    rw [hb,e]
    exact ht
theorem made {w : List (List Int)} (g : Good w) {d : List Int} (hd : isOrder d w.length = true) (hw : noW w d) : ∃ o,isOrder o w.length = true ∧ turnsP w o = d := by
  have h6 := g.n6
  obtain ⟨dl,dr,di⟩ := order_inj h6 hd
  obtain ⟨-,-,dc⟩ := order_spec h6 hd
  have hmR : ∀ i : Int,i ∈ (List.range w.length).map (fun j : Nat => (j : Int)) ↔ 0 ≤ i ∧ i < w.length := fun i => by
    rw [List.mem_map]
    constructor
    · rintro ⟨j,hj,rfl⟩; have := List.mem_range.1 hj; omega
    · intro h; exact ⟨i.toNat,List.mem_range.2 (by omega),by omega⟩
  have hnd : ((List.range w.length).map (fun j : Nat => (j : Int))).Nodup := by
    rw [List.nodup_iff_pairwise_ne,List.pairwise_map]
    exact (List.nodup_iff_pairwise_ne.1 List.nodup_range).imp fun h e => h (by omega)
  obtain ⟨r,hr,ht⟩ := serial g hd hw w.length _ (fullS w.length) (List.replicate w.length 0) (by simp) hnd (fun i hi => (hmR i).1 hi) (by simp) (left_full h6)
    (fun c hc => ⟨fun _ => by
      obtain ⟨j,hj,e⟩ := List.getElem_of_mem (dc c hc)
      refine ⟨(j : Int),(hmR _).2 (by omega),?_⟩
      rw [Int.toNat_natCast,List.getD_eq_getElem?_getD,List.getElem?_eq_getElem hj,← e]; rfl,fun _ => full_has h6 hc⟩)
    (fun j hj hn => absurd ((hmR j).2 (by omega)) hn)
  refine ⟨r,order_of h6 (by rw [hr.length_eq]; simp) (fun x hx => (hmR x).1 (hr.mem_iff.1 hx)) (hr.nodup_iff.2 hnd),ht⟩
theorem made_iff {w : List (List Int)} (g : Good w) {d : List Int} (hd : isOrder d w.length = true) : noW w d ↔ ∃ o,isOrder o w.length = true ∧ turnsP w o = d :=
  ⟨made g hd,fun ⟨_,ho,e⟩ => e ▸ (turns_order g ho).2⟩
end Go.Abs.Sp
