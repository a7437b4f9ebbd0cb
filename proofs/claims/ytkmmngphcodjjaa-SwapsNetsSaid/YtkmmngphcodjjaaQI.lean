/- Swaps,plain: what they help,and the most. -/
import Derived.Test.YtkmmngphcodjjaaQE
namespace Go.Proofs.Ytkmmngphcodjjaa
open Go.Abs AVal
set_option linter.unusedSimpArgs false
def and2 (x y : Int) : Int := bitsI .and .i64 x y
def setG (m : Int) (c : List Int) : Int := c.foldl (fun m x => Sp.orI m (Sp.shl1 x)) m
def setL (c : List Int) : Int := setG 0 c
def mostR : List (List Int) → Int → Nat
  | [],_ => 0
  | c :: r,u => if and2 (setL c) u = 0 then max (mostR r u) (c.length + mostR r (Sp.orI u (setL c))) else mostR r u
theorem mostR_le {l : List (List Int)} (h : ∀ c ∈ l,c.length ≤ 3) : ∀ u : Int,mostR l u ≤ 3 * l.length := by
  induction l with
  | nil => intro u; exact Nat.le_refl _
  | cons c l ih =>
    intro u
    have h1 := ih (fun c hc => h c (by simp [hc]))
    have h2 := h1 u
    have h3 := h1 (Sp.orI u (setL c))
    have h4 := h c (by simp)
    rw [mostR,List.length_cons]
    split <;> omega
def stepC (C : List (List Int)) (s : Option (Int × Nat × Int)) (c : List Int) : Option (Int × Nat × Int) :=
  match s with
  | none => none
  | some (u,h,k) => if Sp.idx (fun x => x == c) C ≤ k then none else if and2 (setL c) u = 0 then some (Sp.orI u (setL c),h + c.length,Sp.idx (fun x => x == c) C) else none
def chkG (C l : List (List Int)) (s : Option (Int × Nat × Int)) : Option (Int × Nat × Int) := l.foldl (stepC C) s
def chk (C l : List (List Int)) : Option (Int × Nat × Int) := chkG C l (some (0,0,-1))
theorem chkG_none (C l : List (List Int)) : chkG C l none = none := by
  induction l with
  | nil => rfl
  | cons c l ih => exact ih
theorem chk_snoc (C l : List (List Int)) (c : List Int) : chk C (l ++ [c]) = stepC C (chk C l) c := by unfold chk chkG; rw [List.foldl_append]; rfl
theorem idx_of {C pre suf : List (List Int)} {c : List Int} (hC : C.Nodup) (h : C = pre ++ c :: suf) : Sp.idx (fun x => x == c) C = pre.length := by
  subst h
  rw [Sp.idx_mid _ _ _ (fun x hx => ?_)]
  · have : Sp.idx (fun x => x == c) (c :: suf) = 0 := by simp [Sp.idx]
    rw [this]; simp
  · have := (List.nodup_append.1 hC).2.2 x hx c (by simp)
    simpa using this
theorem idx_at2 {α : Type} {p : α → Bool} : ∀ {xs : List α},0 ≤ Sp.idx p xs → ∃ (i : Nat) (x : α),Sp.idx p xs = i ∧ xs[i]? = some x ∧ p x = true ∧ ∀ y ∈ xs.take i,p y = false
  | [],h => by simp [Sp.idx] at h
  | x :: xs,h => by
    rw [Sp.idx] at h ⊢
    by_cases hp : p x = true
    · rw [if_pos hp]; exact ⟨0,x,rfl,rfl,hp,by simp⟩
    · rw [if_neg hp] at h ⊢
      by_cases hr : Sp.idx p xs < 0
      · rw [if_pos hr] at h; omega
      rw [if_neg hr]
      obtain ⟨i,y,h1,h2,h3,h4⟩ := idx_at2 (p := p) (xs := xs) (by omega)
      exact ⟨i + 1,y,by omega,h2,h3,fun z hz => by
        rw [List.take_succ_cons] at hz
        rcases List.mem_cons.1 hz with rfl | hz
        · simpa using hp
        · exact h4 z hz⟩
def bump (now : List (List Int)) (h : Nat) (st : List (List Int) × Nat) : List (List Int) × Nat := if st.2 < h then (now,h) else st
def loopR : List (List Int) → Int → List (List Int) → Nat → List (List Int) × Nat → List (List Int) × Nat
  | [],_,_,_,st => st
  | c :: r,u,now,h,st => loopR r u now h (if and2 (setL c) u = 0 then loopR r (Sp.orI u (setL c)) (now ++ [c]) (h + c.length) (bump (now ++ [c]) (h + c.length) st) else st)
def GoodS (C : List (List Int)) (st : List (List Int) × Nat) : Prop := ∃ (u k : Int),chk C st.1 = some (u,st.2,k)
theorem loopR_spec {C : List (List Int)} (hC : C.Nodup) : ∀ (l pre : List (List Int)) (u : Int) (now : List (List Int)) (h : Nat) (k : Int) (st : List (List Int) × Nat),C = pre ++ l → chk C now = some (u,h,k) → k < pre.length → GoodS C st → h ≤ st.2 →
    GoodS C (loopR l u now h st) ∧ (loopR l u now h st).2 = max st.2 (h + mostR l u)
  | [],pre,u,now,h,k,st,_,_,_,hg,hh => ⟨hg,by rw [loopR,mostR]; omega⟩
  | c :: l,pre,u,now,h,k,st,hc,hn,hk,hg,hh => by
    have hc' : C = (pre ++ [c]) ++ l := by rw [hc]; simp
    have hk' : k < (pre ++ [c]).length := by rw [List.length_append]; omega
    rw [loopR,mostR]
    by_cases h0 : and2 (setL c) u = 0
    · rw [if_pos h0,if_pos h0]
      have hs : chk C (now ++ [c]) = some (Sp.orI u (setL c),h + c.length,(pre.length : Int)) := by
        rw [chk_snoc,hn]
        unfold stepC
        dsimp only
        rw [idx_of hC hc,if_neg (by omega),if_pos h0]
      have hb : GoodS C (bump (now ++ [c]) (h + c.length) st) := by
        unfold bump
        split
        · exact ⟨_,_,hs⟩
        · exact hg
      have hb2 : (bump (now ++ [c]) (h + c.length) st).2 = max st.2 (h + c.length) := by
        unfold bump
        split
        · dsimp only; omega
        · omega
      obtain ⟨g1,g2⟩ := loopR_spec hC l (pre ++ [c]) (Sp.orI u (setL c)) (now ++ [c]) (h + c.length) pre.length _ hc' hs (by rw [List.length_append]; simp; omega) hb (by omega)
      obtain ⟨g3,g4⟩ := loopR_spec hC l (pre ++ [c]) u now h k _ hc' hn hk' g1 (by omega)
      exact ⟨g3,by rw [g4,g2,hb2]; omega⟩
    · rw [if_neg h0,if_neg h0]
      exact loopR_spec hC l (pre ++ [c]) u now h k st hc' hn hk' hg hh
def swapsA (C : List (List Int)) : List (List Int) × Nat := loopR C 0 [] 0 ([],0)
theorem swapsA_ok {C : List (List Int)} (hC : C.Nodup) : (∃ u k : Int,chk C (swapsA C).1 = some (u,mostR C 0,k)) ∧ (swapsA C).2 = mostR C 0 := by
  obtain ⟨⟨u,k,h1⟩,h2⟩ := loopR_spec hC C [] 0 [] 0 (-1) ([],0) rfl rfl (by simp) ⟨0,-1,rfl⟩ (Nat.le_refl _)
  have h3 : (swapsA C).2 = mostR C 0 := by rw [swapsA,h2]; simp
  refine ⟨⟨u,k,?_⟩,h3⟩
  rw [← h3]; exact h1
theorem gB_hd {g : List Int} {a b : Nat} {x : List Int} (h : x ∈ gB g a b) : ∃ t,x = (a : Int) :: b :: t := by
  unfold gB at h
  split at h
  · rcases List.mem_append.1 h with h | h
    · split at h
      · simp at h; exact ⟨[],h⟩
      · cases h
    · obtain ⟨c,-,-,-,-,-,rfl⟩ := g3_mem.1 h
      exact ⟨[(c : Int)],rfl⟩
  · cases h
theorem g1_nodup (g : List Int) (k : Nat) : (g1 g k).Nodup := by
  have hr : ∀ n,(List.range n).Pairwise (· ≠ ·) := fun n => List.nodup_range
  unfold g1 g2
  rw [List.Nodup,List.pairwise_flatMap]
  refine ⟨fun a _ => ?_,(hr k).imp fun {a a'} h x hx y hy e => ?_⟩
  · rw [List.pairwise_flatMap]
    refine ⟨fun b _ => ?_,(hr g.length).imp fun {b b'} h x hx y hy e => ?_⟩
    · unfold gB
      split
      · rw [List.pairwise_append]
        refine ⟨by split <;> simp,?_,fun x hx y hy e => ?_⟩
        · unfold g3
          rw [List.pairwise_map]
          exact ((hr g.length).filter _).imp fun {c c'} h e => h (by simp at e; omega)
        · obtain ⟨c,-,-,-,-,-,rfl⟩ := g3_mem.1 hy
          split at hx
          · simp at hx; rw [hx] at e; simp at e
          · cases hx
      · exact .nil
    · obtain ⟨t,rfl⟩ := gB_hd hx
      obtain ⟨t',rfl⟩ := gB_hd hy
      simp at e
      exact h (by omega)
  · obtain ⟨b,-,hx⟩ := List.mem_flatMap.1 hx
    obtain ⟨b',-,hy⟩ := List.mem_flatMap.1 hy
    obtain ⟨t,rfl⟩ := gB_hd hx
    obtain ⟨t',rfl⟩ := gB_hd hy
    simp at e
    exact h (by omega)
theorem circs_nodup (g : List Int) : (circs g).Nodup := (Sp.sortV_perm _).nodup_iff.2 (g1_nodup g g.length)
theorem permOf {l l' : List (List Int)} (h1 : l.Nodup) (h2 : l'.Nodup) (h : ∀ a,a ∈ l ↔ a ∈ l') : l.Perm l' :=
  List.perm_iff_count.2 fun a => by
    rw [h1.count,h2.count]
    by_cases ha : a ∈ l
    · rw [if_pos ha,if_pos ((h a).1 ha)]
    · rw [if_neg ha,if_neg fun hh => ha ((h a).2 hh)]
end Go.Proofs.Ytkmmngphcodjjaa
