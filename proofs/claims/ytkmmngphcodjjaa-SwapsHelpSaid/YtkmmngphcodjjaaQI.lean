/- Swaps,plain: what they help,and the most. -/
import Derived.Test.YtkmmngphcodjjaaQE
namespace Go.Proofs.Ytkmmngphcodjjaa
open Go.Abs AVal
set_option linter.unusedSimpArgs false
def and2 (x y : Int) : Int := bitsI .and .i64 x y
def setG (m : Int) (c : List Int) : Int := c.foldl (fun m x => Sp.orI m (Sp.shl1 x)) m
def setL (c : List Int) : Int := setG 0 c
def mostR : List (List Int) → Int → Nat
  | [],_ => 0
  | c :: r,u => if and2 (setL c) u = 0 then max (mostR r u) (c.length + mostR r (Sp.orI u (setL c))) else mostR r u
theorem mostR_sub {l m : List (List Int)} (h : l.Sublist m) : ∀ u : Int,mostR l u ≤ mostR m u := by
  induction h with
  | slnil => intro u; exact Nat.le_refl _
  | cons c _ ih =>
    intro u
    rw [mostR]
    split
    · exact Nat.le_trans (ih u) (Nat.le_max_left _ _)
    · exact ih u
  | cons_cons c _ ih =>
    intro u
    rw [mostR,mostR]
    split
    · have h1 := ih u
      have h2 := ih (Sp.orI u (setL c))
      omega
    · exact ih u
def stepC (C : List (List Int)) (s : Option (Int × Nat × Int)) (c : List Int) : Option (Int × Nat × Int) :=
  match s with
  | none => none
  | some (u,h,k) => if Sp.idx (fun x => x == c) C ≤ k then none else if and2 (setL c) u = 0 then some (Sp.orI u (setL c),h + c.length,Sp.idx (fun x => x == c) C) else none
def chkG (C l : List (List Int)) (s : Option (Int × Nat × Int)) : Option (Int × Nat × Int) := l.foldl (stepC C) s
def chk (C l : List (List Int)) : Option (Int × Nat × Int) := chkG C l (some (0,0,-1))
theorem chkG_none (C l : List (List Int)) : chkG C l none = none := by
  induction l with
  | nil => rfl
  | cons c l ih => exact ih
theorem chk_snoc (C l : List (List Int)) (c : List Int) : chk C (l ++ [c]) = stepC C (chk C l) c := by unfold chk chkG; rw [List.foldl_append]; rfl
theorem idx_of {C pre suf : List (List Int)} {c : List Int} (hC : C.Nodup) (h : C = pre ++ c :: suf) : Sp.idx (fun x => x == c) C = pre.length := by
  subst h
  rw [Sp.idx_mid _ _ _ (fun x hx => ?_)]
  · have : Sp.idx (fun x => x == c) (c :: suf) = 0 := by simp [Sp.idx]
    rw [this]; simp
  · have := (List.nodup_append.1 hC).2.2 x hx c (by simp)
    simpa using this
theorem idx_at2 {α : Type} {p : α → Bool} : ∀ {xs : List α},0 ≤ Sp.idx p xs → ∃ (i : Nat) (x : α),Sp.idx p xs = i ∧ xs[i]? = some x ∧ p x = true ∧ ∀ y ∈ xs.take i,p y = false
  | [],h => by simp [Sp.idx] at h
  | x :: xs,h => by
    rw [Sp.idx] at h ⊢
    by_cases hp : p x = true
    · rw [if_pos hp]; exact ⟨0,x,rfl,rfl,hp,by simp⟩
    · rw [if_neg hp] at h ⊢
      by_cases hr : Sp.idx p xs < 0
      · rw [if_pos hr] at h; omega
      rw [if_neg hr]
      obtain ⟨i,y,h1,h2,h3,h4⟩ := idx_at2 (p := p) (xs := xs) (by omega)
      exact ⟨i + 1,y,by omega,h2,h3,fun z hz => by
        rw [List.take_succ_cons] at hz
        rcases List.mem_cons.1 hz with rfl | hz
        · simpa using hp
        · exact h4 z hz⟩
theorem chk_most {C : List (List Int)} (hC : C.Nodup) : ∀ (l : List (List Int)) {u u' : Int} {h h' : Nat} {k k' : Int},-1 ≤ k → chkG C l (some (u,h,k)) = some (u',h',k') → h' ≤ h + mostR (C.drop (k + 1).toNat) u
  | [],u,u',h,h',k,k',_,e => by
    have : (u,h,k) = (u',h',k') := Option.some.inj e
    simp at this
    omega
  | c :: l,u,u',h,h',k,k',hk,e => by
    have e' : chkG C l (stepC C (some (u,h,k)) c) = some (u',h',k') := e
    unfold stepC at e'
    dsimp only at e'
    split at e'
    · rw [chkG_none] at e'; cases e'
    · rename_i h1
      split at e'
      · rename_i h2
        have ih := chk_most hC l (by omega) e'
        obtain ⟨i,x,hi,hx,hp,-⟩ : ∃ (i : Nat) (x : List Int),Sp.idx (fun x => x == c) C = i ∧ C[i]? = some x ∧ (x == c) = true ∧ ∀ y ∈ C.take i,(y == c) = false := idx_at2 (by omega)
        have hxc : x = c := by simpa using hp
        subst hxc
        rw [hi] at ih h1
        have hd : C.drop i = x :: C.drop (i + 1) := by
          rw [List.getElem?_eq_some_iff] at hx
          obtain ⟨hil,hx⟩ := hx
          rw [List.drop_eq_getElem_cons hil,hx]
        have e1 : ((i : Int) + 1).toNat = i + 1 := by omega
        rw [e1] at ih
        have hs : (C.drop i).Sublist (C.drop (k + 1).toNat) := by
          have : C.drop i = (C.drop (k + 1).toNat).drop (i - (k + 1).toNat) := by rw [List.drop_drop]; congr 1; omega
          rw [this]; exact List.drop_sublist _ _
        have h3 := mostR_sub hs u
        rw [hd,mostR,if_pos h2] at h3
        omega
      · rw [chkG_none] at e'; cases e'
def bump (now : List (List Int)) (h : Nat) (st : List (List Int) × Nat) : List (List Int) × Nat := if st.2 < h then (now,h) else st
def loopR : List (List Int) → Int → List (List Int) → Nat → List (List Int) × Nat → List (List Int) × Nat
  | [],_,_,_,st => st
  | c :: r,u,now,h,st => loopR r u now h (if and2 (setL c) u = 0 then loopR r (Sp.orI u (setL c)) (now ++ [c]) (h + c.length) (bump (now ++ [c]) (h + c.length) st) else st)
def GoodS (C : List (List Int)) (st : List (List Int) × Nat) : Prop := ∃ (u k : Int),chk C st.1 = some (u,st.2,k)
theorem loopR_spec {C : List (List Int)} (hC : C.Nodup) : ∀ (l pre : List (List Int)) (u : Int) (now : List (List Int)) (h : Nat) (k : Int) (st : List (List Int) × Nat),C = pre ++ l → chk C now = some (u,h,k) → k < pre.length → GoodS C st → h ≤ st.2 →
    GoodS C (loopR l u now h st) ∧ (loopR l u now h st).2 = max st.2 (h + mostR l u)
  | [],pre,u,now,h,k,st,_,_,_,hg,hh => ⟨hg,by rw [loopR,mostR]; omega⟩
  | c :: l,pre,u,now,h,k,st,hc,hn,hk,hg,hh => by
    have hc' : C = (pre ++ [c]) ++ l := by rw [hc]; simp
    have hk' : k < (pre ++ [c]).length := by rw [List.length_append]; omega
    rw [loopR,mostR]
    by_cases h0 : and2 (setL c) u = 0
    · rw [if_pos h0,if_pos h0]
      have hs : chk C (now ++ [c]) = some (Sp.orI u (setL c),h + c.length,(pre.length : Int)) := by
        rw [chk_snoc,hn]
        unfold stepC
        dsimp only
        rw [idx_of hC hc,if_neg (by omega),if_pos h0]
      have hb : GoodS C (bump (now ++ [c]) (h + c.length) st) := by
        unfold bump
        split
        · exact ⟨_,_,hs⟩
        · exact hg
      have hb2 : (bump (now ++ [c]) (h + c.length) st).2 = max st.2 (h + c.length) := by
        unfold bump
        split
        · dsimp only; omega
        · omega
      obtain ⟨g1,g2⟩ := loopR_spec hC l (pre ++ [c]) (Sp.orI u (setL c)) (now ++ [c]) (h + c.length) pre.length _ hc' hs (by rw [List.length_append]; simp; omega) hb (by omega)
      obtain ⟨g3,g4⟩ := loopR_spec hC l (pre ++ [c]) u now h k _ hc' hn hk' g1 (by omega)
      exact ⟨g3,by rw [g4,g2,hb2]; omega⟩
    · rw [if_neg h0,if_neg h0]
      exact loopR_spec hC l (pre ++ [c]) u now h k st hc' hn hk' hg hh
def swapsA (C : List (List Int)) : List (List Int) × Nat := loopR C 0 [] 0 ([],0)
theorem swapsA_ok {C : List (List Int)} (hC : C.Nodup) : (∃ u k : Int,chk C (swapsA C).1 = some (u,mostR C 0,k)) ∧ (swapsA C).2 = mostR C 0 := by
  obtain ⟨⟨u,k,h1⟩,h2⟩ := loopR_spec hC C [] 0 [] 0 (-1) ([],0) rfl rfl (by simp) ⟨0,-1,rfl⟩ (Nat.le_refl _)
  have h3 : (swapsA C).2 = mostR C 0 := by rw [swapsA,h2]; simp
  refine ⟨⟨u,k,?_⟩,h3⟩
  rw [← h3]; exact h1
theorem chk_one {C : List (List Int)} {c : List Int} (h : c ∈ C) (hz : and2 (setL c) 0 = 0) : ∃ u k : Int,chk C [c] = some (u,c.length,k) := by
  refine ⟨Sp.orI 0 (setL c),Sp.idx (fun x => x == c) C,?_⟩
  show stepC C (some (0,0,-1)) c = _
  unfold stepC
  dsimp only
  have := Sp.idx_pos (p := fun x => x == c) ⟨c,h,by simp⟩
  rw [if_neg (by omega),if_pos hz,Nat.zero_add]
theorem gB_hd {g : List Int} {a b : Nat} {x : List Int} (h : x ∈ gB g a b) : ∃ t,x = (a : Int) :: b :: t := by
  unfold gB at h
  split at h
  · rcases List.mem_append.1 h with h | h
    · split at h
      · simp at h; exact ⟨[],h⟩
      · cases h
    · obtain ⟨c,-,-,-,-,-,rfl⟩ := g3_mem.1 h
      exact ⟨[(c : Int)],rfl⟩
  · cases h
theorem g1_nodup (g : List Int) (k : Nat) : (g1 g k).Nodup := by
  have hr : ∀ n,(List.range n).Pairwise (· ≠ ·) := fun n => List.nodup_range
  unfold g1 g2
  rw [List.Nodup,List.pairwise_flatMap]
  refine ⟨fun a _ => ?_,(hr k).imp fun {a a'} h x hx y hy e => ?_⟩
  · rw [List.pairwise_flatMap]
    refine ⟨fun b _ => ?_,(hr g.length).imp fun {b b'} h x hx y hy e => ?_⟩
    · unfold gB
      split
      · rw [List.pairwise_append]
        refine ⟨by split <;> simp,?_,fun x hx y hy e => ?_⟩
        · unfold g3
          rw [List.pairwise_map]
          exact ((hr g.length).filter _).imp fun {c c'} h e => h (by simp at e; omega)
        · obtain ⟨c,-,-,-,-,-,rfl⟩ := g3_mem.1 hy
          split at hx
          · simp at hx; rw [hx] at e; simp at e
          · cases hx
      · exact .nil
    · obtain ⟨t,rfl⟩ := gB_hd hx
      obtain ⟨t',rfl⟩ := gB_hd hy
      simp at e
      exact h (by omega)
  · obtain ⟨b,-,hx⟩ := List.mem_flatMap.1 hx
    obtain ⟨b',-,hy⟩ := List.mem_flatMap.1 hy
    obtain ⟨t,rfl⟩ := gB_hd hx
    obtain ⟨t',rfl⟩ := gB_hd hy
    simp at e
    exact h (by omega)
theorem circs_nodup (g : List Int) : (circs g).Nodup := (Sp.sortV_perm _).nodup_iff.2 (g1_nodup g g.length)
theorem permOf {l l' : List (List Int)} (h1 : l.Nodup) (h2 : l'.Nodup) (h : ∀ a,a ∈ l ↔ a ∈ l') : l.Perm l' :=
  List.perm_iff_count.2 fun a => by
    rw [h1.count,h2.count]
    by_cases ha : a ∈ l
    · rw [if_pos ha,if_pos ((h a).1 ha)]
    · rw [if_neg ha,if_neg fun hh => ha ((h a).2 hh)]
theorem circs_sub {g g' : List Int} (h : ∀ x,Cir g x → Cir g' x) : (circs g).Sublist (circs g') := by
  have e : circs g = (circs g').filter fun x => decide (x ∈ circs g) := by
    refine Sp.asc_unique (Sp.sortV_asc _) ((Sp.sortV_asc _).filter _) (permOf (circs_nodup g) ((circs_nodup g').filter _) fun y => ?_)
    rw [List.mem_filter,decide_eq_true_iff]
    exact ⟨fun hy => ⟨circs_mem.2 (h y (circs_mem.1 hy)),hy⟩,fun hy => hy.2⟩
  rw [e]; exact List.filter_sublist
end Go.Proofs.Ytkmmngphcodjjaa
