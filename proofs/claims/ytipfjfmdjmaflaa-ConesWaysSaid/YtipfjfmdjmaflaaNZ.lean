/- Plain: shortest ways. -/
import Derived.Test.YtipfjfmdjmaflaaM3
namespace Go.Proofs.Ytipfjfmdjmaflaa
open Go.Abs AVal
set_option linter.unusedSimpArgs false
inductive Hop (N : List Int → List Int → Prop) (X : List Int) : List Int → Nat → Prop
  | start : Hop N X X 0
  | step {Y y : List Int} {n : Nat} (h : Hop N X Y n) (hy : N Y y) : Hop N X y (n + 1)
def nearR (bs : List (List Int)) (u v : List Int) : Prop := v ∈ nearL u bs
theorem foldE_app {Y : List Int} {d : Nat} : ∀ (l : List (List Int)) (es : List Ent),∃ t,l.foldl (addE Y d) es = es ++ t ∧ ∀ e ∈ t,e.1 ∈ l ∧ e.2 = (Y,d + 1)
  | [],es => ⟨[],by simp,by simp⟩
  | y :: l,es => by
    rw [List.foldl_cons]
    obtain ⟨t,ht,hm⟩ := foldE_app (Y := Y) (d := d) l (addE Y d es y)
    unfold addE at ht ⊢
    split at ht
    · rename_i h
      rw [if_pos h]
      exact ⟨t,ht,fun e he => ⟨by simp [(hm e he).1],(hm e he).2⟩⟩
    · rename_i h
      rw [if_neg h]
      refine ⟨(y,Y,d + 1) :: t,by rw [ht]; simp,fun e he => ?_⟩
      rcases List.mem_cons.1 he with rfl | he
      · exact ⟨by simp,rfl⟩
      · exact ⟨by simp [(hm e he).1],(hm e he).2⟩
section
variable {bs : List (List Int)} {X : List Int} {st : List Int → Bool} {es : List Ent} {i : Nat}
theorem Sr.far (h : Sr bs X st es i) : (∀ (j k : Nat) (e e' : Ent),es[j]? = some e → es[k]? = some e' → j ≤ k → e.2.2 ≤ e'.2.2) ∧ (∀ e : Ent,es[i]? = some e → ∀ e' ∈ es,e'.2.2 ≤ e.2.2 + 1) := by
  induction h with
  | start =>
    refine ⟨fun j k e e' hj hk _ => ?_,fun e he e' he' => ?_⟩
    · have h1 := List.mem_of_getElem? hj
      have h2 := List.mem_of_getElem? hk
      simp at h1 h2; subst h1 h2; exact Nat.le_refl _
    · have h1 := List.mem_of_getElem? he
      simp at h1 he'; subst h1 he'; simp
  | @step es i Y f d h hi hs ih =>
    obtain ⟨hA,hB⟩ := ih
    obtain ⟨t,ht,hm⟩ := foldE_app (Y := Y) (d := d) (nearL Y bs) es
    rw [ht]
    have hil := (List.getElem?_eq_some_iff.1 hi).1
    have old : ∀ e ∈ es,e.2.2 ≤ d + 1 := hB _ hi
    have new : ∀ e ∈ t,e.2.2 = d + 1 := fun e he => by rw [(hm e he).2]
    have all : ∀ e ∈ es ++ t,e.2.2 ≤ d + 1 := fun e he => by
      rcases List.mem_append.1 he with he | he
      · exact old e he
      · rw [new e he]; exact Nat.le_refl _
    have srt : ∀ (j k : Nat) (e e' : Ent),(es ++ t)[j]? = some e → (es ++ t)[k]? = some e' → j ≤ k → e.2.2 ≤ e'.2.2 := fun j k e e' hj hk hjk => by
      by_cases hk' : k < es.length
      · rw [List.getElem?_append_left hk'] at hk
        rw [List.getElem?_append_left (by omega)] at hj
        exact hA j k e e' hj hk hjk
      · rw [List.getElem?_append_right (by omega)] at hk
        rw [new e' (List.mem_of_getElem? hk)]
        exact all e (List.mem_of_getElem? hj)
    refine ⟨srt,fun e he e' he' => ?_⟩
    have h1 := srt i (i + 1) (Y,f,d) e (by rw [List.getElem?_append_left hil]; exact hi) he (by omega)
    have h2 := all e' he'
    have h1 : d ≤ e.2.2 := h1
    omega
theorem Sr.asked (h : Sr bs X st es i) : ∀ j,j < i → ∀ e,es[j]? = some e → st e.1 = false := by
  induction h with
  | start => intro j hj; omega
  | @step es i Y f d h hi hs ih =>
    obtain ⟨t,ht,hm⟩ := foldE_app (Y := Y) (d := d) (nearL Y bs) es
    rw [ht]
    have hil := (List.getElem?_eq_some_iff.1 hi).1
    intro j hj e he
    rw [List.getElem?_append_left (by omega)] at he
    by_cases hji : j < i
    · exact ih j hji e he
    · obtain rfl : j = i := by omega
      rw [hi] at he; cases he; exact hs
theorem Sr.from (h : Sr bs X st es i) : ∀ e ∈ es,(e.1 = X ∧ e.2.2 = 0) ∨ ∃ f' d',(e.2.1,f',d') ∈ es ∧ e.2.2 = d' + 1 ∧ e.1 ∈ nearL e.2.1 bs := by
  induction h with
  | start => intro e he; simp at he; subst he; exact .inl ⟨rfl,rfl⟩
  | @step es i Y f d h hi hs ih =>
    obtain ⟨t,ht,hm⟩ := foldE_app (Y := Y) (d := d) (nearL Y bs) es
    rw [ht]
    intro e he
    rcases List.mem_append.1 he with he | he
    · rcases ih e he with h | ⟨f',d',h1,h2,h3⟩
      · exact .inl h
      · exact .inr ⟨f',d',List.mem_append_left _ h1,h2,h3⟩
    · obtain ⟨h1,h2⟩ := hm e he
      rw [h2]
      exact .inr ⟨f,d,List.mem_append_left _ (List.mem_of_getElem? hi),rfl,h1⟩
theorem Sr.hop (h : Sr bs X st es i) : ∀ e ∈ es,Hop (nearR bs) X e.1 e.2.2 := by
  induction h with
  | start => intro e he; simp at he; subst he; exact .start
  | @step es i Y f d h hi hs ih =>
    obtain ⟨t,ht,hm⟩ := foldE_app (Y := Y) (d := d) (nearL Y bs) es
    rw [ht]
    intro e he
    rcases List.mem_append.1 he with he | he
    · exact ih e he
    · obtain ⟨h1,h2⟩ := hm e he
      rw [h2]
      exact (ih _ (List.mem_of_getElem? hi)).step h1
theorem Sr.close (h : Sr bs X st es i) : ∀ j,j < i → ∀ e,es[j]? = some e → ∀ y ∈ nearL e.1 bs,∃ f' d',(y,f',d') ∈ es ∧ d' ≤ e.2.2 + 1 := by
  induction h with
  | start => intro j hj; omega
  | @step es i Y f d h hi hs ih =>
    have hB := h.far.2 _ hi
    obtain ⟨t,ht,hm⟩ := foldE_app (Y := Y) (d := d) (nearL Y bs) es
    have hil := (List.getElem?_eq_some_iff.1 hi).1
    intro j hj e he y hy
    rw [ht,List.getElem?_append_left (by omega)] at he
    by_cases hji : j < i
    · obtain ⟨f',d',h1,h2⟩ := ih j hji e he y hy
      exact ⟨f',d',by rw [ht]; exact List.mem_append_left _ h1,h2⟩
    · obtain rfl : j = i := by omega
      rw [hi] at he; cases he
      have := foldE_has (Y := Y) (d := d) (es := es) hy
      rw [hasK_iff,List.mem_map] at this
      obtain ⟨⟨y',f',d'⟩,he',hy'⟩ := this
      have hy' : y' = y := hy'
      subst hy'
      refine ⟨f',d',he',?_⟩
      rw [ht] at he'
      rcases List.mem_append.1 he' with he' | he'
      · exact hB _ he'
      · have := (hm _ he').2
        simp at this
        show d' ≤ d + 1
        omega
theorem Sr.reach (h : Sr bs X st es i) {Y : List Int} {n : Nat} (hy : Hop (nearR bs) X Y n) : (∃ f d,(Y,f,d) ∈ es ∧ d ≤ n) ∨ ∃ e,es[i]? = some e ∧ e.2.2 < n := by
  induction hy with
  | start => exact .inl ⟨X,0,List.mem_of_getElem? h.first,Nat.le_refl _⟩
  | @step Y y n hY hy ih =>
    rcases ih with ⟨f,d,hm,hd⟩ | ⟨e,he,hl⟩
    · obtain ⟨j,hj⟩ := List.getElem?_of_mem hm
      by_cases hji : j < i
      · obtain ⟨f',d',h1,h2⟩ := h.close j hji _ hj y hy
        have h2 : d' ≤ d + 1 := h2
        exact .inl ⟨f',d',h1,by omega⟩
      · have hjl := (List.getElem?_eq_some_iff.1 hj).1
        obtain ⟨e,he⟩ : ∃ e,es[i]? = some e := ⟨_,List.getElem?_eq_getElem (show i < es.length by omega)⟩
        have h1 := h.far.1 i j e _ he hj (by omega)
        have h1 : e.2.2 ≤ d := h1
        exact .inr ⟨e,he,by omega⟩
    · exact .inr ⟨e,he,by omega⟩
theorem key_uniq (h : (es.map (·.1)).Nodup) {e e' : Ent} (he : e ∈ es) (he' : e' ∈ es) (hk : e.1 = e'.1) : e = e' := by
  obtain ⟨j,hj,rfl⟩ := List.getElem_of_mem he
  obtain ⟨k,hk',rfl⟩ := List.getElem_of_mem he'
  have : j = k := (List.getElem_inj (h₀ := by simpa using hj) (h₁ := by simpa using hk') h).1 (by simpa using hk)
  subst this; rfl
theorem Sr.deep {V : List Int} {L : Nat} (h : Sr bs X (fun y => y == V) es i) (hV : Hop (nearR bs) X V L) : ∀ e ∈ es,e.2.2 ≤ L + 1 := by
  generalize hst : (fun y => y == V) = st at h
  induction h with
  | start => intro e he; simp at he; subst he; simp
  | @step es i Y f d h hi hs ih =>
    obtain ⟨t,ht,hm⟩ := foldE_app (Y := Y) (d := d) (nearL Y bs) es
    rw [ht]
    intro e he
    rcases List.mem_append.1 he with he | he
    · exact ih e he
    · rw [(hm e he).2]
      show d + 1 ≤ L + 1
      rcases h.reach hV with ⟨f',d',h1,h2⟩ | ⟨e',h1,h2⟩
      · obtain ⟨j,hj⟩ := List.getElem?_of_mem h1
        by_cases hji : j < i
        · have := h.asked j hji _ hj
          rw [← hst] at this
          simp at this
        · have := h.far.1 i j _ _ hi hj (by omega)
          have : d ≤ d' := this
          omega
      · rw [hi] at h1; cases h1
        have h2 : d < L := h2
        omega
theorem Sr.found {V : List Int} {L : Nat} (h : Sr bs X st es i) (hV : Hop (nearR bs) X V L) (hend : i = es.length ∨ ∃ f d,es[i]? = some (V,f,d)) : ∃ f d,(V,f,d) ∈ es ∧ ∀ n,Hop (nearR bs) X V n → d ≤ n := by
  rcases hend with rfl | ⟨f,d,hi⟩
  · have key : ∀ n,Hop (nearR bs) X V n → ∃ f d,(V,f,d) ∈ es ∧ d ≤ n := fun n hn => by
      rcases h.reach hn with h | ⟨e,he,-⟩
      · exact h
      · rw [List.getElem?_eq_none (Nat.le_refl _)] at he; cases he
    obtain ⟨f,d,h1,-⟩ := key L hV
    refine ⟨f,d,h1,fun n hn => ?_⟩
    obtain ⟨f',d',h2,h3⟩ := key n hn
    have := key_uniq h.nd h1 h2 rfl
    simp at this
    omega
  · have h1 := List.mem_of_getElem? hi
    refine ⟨f,d,h1,fun n hn => ?_⟩
    rcases h.reach hn with ⟨f',d',h2,h3⟩ | ⟨e,he,h2⟩
    · have := key_uniq h.nd h1 h2 rfl
      simp at this
      omega
    · rw [hi] at he; cases he
      have h2 : d < n := h2
      omega
end
theorem Hop.box {bs : List (List Int)} {X Y : List Int} {n : Nat} (hX : X.length = 4) (pX : posV X = true) (bX : Sp.inB 6 X) (h4 : ∀ m ∈ bs,m.length = 4) (hb : ∀ m ∈ bs,Sp.inB 16 m) (h : Hop (nearR bs) X Y n) : Y.length = 4 ∧ posV Y = true ∧ ∀ j,Y.getD j 0 ≤ 6 + 16 * n := by
  induction h with
  | start => exact ⟨hX,pX,fun j => by have := Sp.inB_getD bX j; omega⟩
  | @step Y y n h hy ih =>
    obtain ⟨l,p,b⟩ := ih
    obtain ⟨m,hm,rfl,hp⟩ := mem_near.1 hy
    refine ⟨plusV_len l (h4 m hm),hp,fun j => ?_⟩
    rw [plusV_get l (h4 m hm)]
    have h1 := b j
    have h2 := Sp.inB_getD (hb m hm) j
    omega
theorem deep_bnd {bs : List (List Int)} {X V : List Int} {es : List Ent} {i L : Nat} (hX : X.length = 4) (pX : posV X = true) (bX : Sp.inB 6 X) (h4 : ∀ m ∈ bs,m.length = 4) (hb : ∀ m ∈ bs,Sp.inB 16 m) (h : Sr bs X (fun y => y == V) es i) (hV : Hop (nearR bs) X V L) (hL : L ≤ 24) :
    es.length ≤ 27439591201 ∧ ∀ e ∈ es,Sp.inB 90000 e.1 := by
  have hbox : ∀ e ∈ es,e.1.length = 4 ∧ ∀ z ∈ e.1,0 ≤ z ∧ z < (407 : Nat) := fun e he => by
    obtain ⟨l,p,b⟩ := (h.hop e he).box hX pX bX h4 hb
    have hd := h.deep hV e he
    refine ⟨l,fun z hz => ?_⟩
    obtain ⟨j,hj,rfl⟩ := List.getElem_of_mem hz
    have h1 := b j
    have h2 := Sp.posV_get.1 p j
    simp only [List.getD_eq_getElem?_getD,List.getElem?_eq_getElem hj,Option.getD_some] at h1 h2
    omega
  constructor
  · have := box_gen 407 h.nd fun y hy => by
      obtain ⟨e,he,rfl⟩ := List.mem_map.1 hy
      exact hbox e he
    rw [List.length_map] at this
    omega
  · intro e he z hz
    have := (hbox e he).2 z hz
    omega
def Chn (N : List Int → List Int → Prop) : List (List Int) → Prop
  | [] => True
  | [_] => True
  | u :: v :: l => N u v ∧ Chn N (v :: l)
theorem Chn.snoc {N : List Int → List Int → Prop} {v w : List Int} : ∀ {l : List (List Int)},Chn N (l ++ [v]) → N v w → Chn N (l ++ [v] ++ [w])
  | [],_,hw => ⟨hw,trivial⟩
  | [u],h,hw => ⟨h.1,hw,trivial⟩
  | u :: u' :: l,h,hw => ⟨h.1,Chn.snoc (l := u' :: l) h.2 hw⟩
theorem Chn.hop {N : List Int → List Int → Prop} {X : List Int} : ∀ {l : List (List Int)} {u : List Int} {k : Nat},Hop N X u k → Chn N (u :: l) → Hop N X ((u :: l).getLast (by simp)) (k + l.length)
  | [],u,k,h,_ => by simpa using h
  | v :: l,u,k,h,hc => by
    have := Chn.hop (h.step hc.1) hc.2
    rw [List.getLast_cons (by simp)]
    simpa [Nat.add_assoc,Nat.add_comm,Nat.add_left_comm] using this
theorem near_back {bs : List (List Int)} {u v : List Int} (h4 : ∀ m ∈ bs,m.length = 4) (hneg : ∀ m ∈ bs,m.map (fun z => -z) ∈ bs) (hu : u.length = 4) (pu : posV u = true) (h : v ∈ nearL u bs) : u ∈ nearL v bs := by
  obtain ⟨m,hm,rfl,hp⟩ := mem_near.1 h
  have m4 := h4 m hm
  refine mem_near.2 ⟨_,hneg m hm,?_,pu⟩
  have n4 : (m.map fun z => -z).length = 4 := by rw [List.length_map,m4]
  refine Sp.ext4 hu (plusV_len (plusV_len hu m4) n4) fun j => ?_
  rw [plusV_get (plusV_len hu m4) n4,plusV_get hu m4]
  have : (m.map fun z => -z).getD j 0 = -(m.getD j 0) := by
    rw [List.getD_eq_getElem?_getD,List.getD_eq_getElem?_getD,List.getElem?_map]
    cases m[j]? <;> simp
  rw [this]; omega
theorem Chn.rev {bs : List (List Int)} (h4 : ∀ m ∈ bs,m.length = 4) (hneg : ∀ m ∈ bs,m.map (fun z => -z) ∈ bs) : ∀ {l : List (List Int)},(∀ u ∈ l,u.length = 4 ∧ posV u = true) → Chn (nearR bs) l → Chn (nearR bs) l.reverse
  | [],_,_ => trivial
  | [u],_,_ => trivial
  | u :: v :: l,hl,h => by
    have ih := Chn.rev h4 hneg (l := v :: l) (fun w hw => hl w (by simp [hw])) h.2
    rw [List.reverse_cons]
    rw [List.reverse_cons] at ih ⊢
    exact ih.snoc (near_back h4 hneg (hl u (by simp)).1 (hl u (by simp)).2 h.1)
end Go.Proofs.Ytipfjfmdjmaflaa
