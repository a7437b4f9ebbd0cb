/- Plain: families have ways. -/
import Derived.Test.YtipfjfmdjmaflaaNZ
namespace Go.Proofs.Ytipfjfmdjmaflaa
open Go.Abs AVal
set_option linter.unusedSimpArgs false
theorem split_few {a : List (List Int)} (hm : Sp.mat a = true) {x : List Int} (hx : x.length = 4) (hp : ∀ j,(a.getD 0 []).length ≤ j → x.getD j 0 = 0) (h0 : Sp.moveB (a.map Sp.pad) x = true) : ∃ l,Sp.SplitOk (a.map Sp.pad) (a.getD 0 []).length x l ∧ (l.length : Int) ≤ Sp.size x := by
  have key : ∀ (k : Nat) (v : List Int) (l : List (List Int)),Sp.size v ≤ k → Sp.Part (a.map Sp.pad) (a.getD 0 []).length x v l → ∃ l,Sp.SplitOk (a.map Sp.pad) (a.getD 0 []).length x l ∧ (l.length : Int) ≤ Sp.size x := by
    intro k
    induction k with
    | zero =>
      intro v l hk h
      by_cases hv : v = Sp.z4
      · exact ⟨l,h.done hv,by have := h.few; have := Sp.size_nn v; omega⟩
      · have := Sp.size_pos h.len hv
        omega
    | succ k ih =>
      intro v l hk h
      by_cases hv : v = Sp.z4
      · exact ⟨l,h.done hv,by have := h.few; have := Sp.size_nn v; omega⟩
      · obtain ⟨y,hy,hf⟩ := Sp.Part.some hm (Sp.basB_is _ _) h hv
        have hM := (Sp.mem_bs hm (Sp.basB_is _ _)).1 hy
        obtain ⟨h1,h2⟩ := Sp.Part.step hx h hM hf
        exact ih _ _ (by omega) h1
  exact key (Sp.size x).toNat x [] (by have := Sp.size_nn x; omega) (Sp.Part.start hx hp h0)
def Nr (a : List (List Int)) (u v : List Int) : Prop := ∃ m,Sp.Mini (a.map Sp.pad) (a.getD 0 []).length m ∧ v = plusV 1 u m ∧ posV v = true
theorem nearR_Nr {a bs : List (List Int)} (hm : Sp.mat a = true) (hB : IsB (a.map Sp.pad) (a.getD 0 []).length bs) : nearR bs = Nr a :=
  funext fun u => funext fun v => propext (by
    unfold nearR Nr
    rw [mem_near]
    exact ⟨fun ⟨m,hm',h⟩ => ⟨m,(Sp.mem_bs hm hB).1 hm',h⟩,fun ⟨m,hm',h⟩ => ⟨m,(Sp.mem_bs hm hB).2 hm',h⟩⟩)
theorem fam_hop {a : List (List Int)} {X Y : List Int} (hm : Sp.mat a = true) (hX : X.length = 4) (hXp : ∀ j,(a.getD 0 []).length ≤ j → X.getD j 0 = 0) (hX0 : posV X = true) (bX : Sp.inB 6 X) (bY : Sp.inB 6 Y)
    (h : Sp.Fam (a.map Sp.pad) (a.getD 0 []).length X Y) : ∃ L,L ≤ 24 ∧ Hop (Nr a) X Y L := by
  have hD : (plusV (-1) Y X).length = 4 := plusV_len h.len hX
  obtain ⟨l,hl,hfew⟩ := split_few hm hD (fun j hj => by rw [plusV_get h.len hX,h.pad j hj,hXp j hj]; omega) h.mv
  have Yp := Sp.posV_get.1 h.pos
  have Xp := Sp.posV_get.1 hX0
  have hsz : Sp.size (plusV (-1) Y X) ≤ 4 * 6 := Sp.size_le (by decide) fun z hz => by
    obtain ⟨j,hj,rfl⟩ := List.getElem_of_mem hz
    have e := plusV_get (k := -1) h.len hX j
    rw [List.getD_eq_getElem?_getD,List.getElem?_eq_getElem hj] at e
    simp only [Option.getD_some] at e
    have h1 := Sp.inB_getD bX j
    have h2 := Sp.inB_getD bY j
    have h3 := Yp j
    have h4 := Xp j
    omega
  have key : ∀ (l : List (List Int)) (Z : List Int) (k : Nat),Hop (Nr a) X Z k → Sp.Fam (a.map Sp.pad) (a.getD 0 []).length X Z → (∀ y ∈ l,Sp.Mini (a.map Sp.pad) (a.getD 0 []).length y ∧ Sp.fitR y (plusV (-1) Y X) = true) → (∀ j,Y.getD j 0 = Z.getD j 0 + Sp.sumC l j) → Hop (Nr a) X Y (k + l.length) := by
    intro l
    induction l with
    | nil =>
      intro Z k hk hZ hb he
      have : Y = Z := Sp.ext4 h.len hZ.len fun j => by rw [he j]; simp [Sp.sumC]
      rw [this]; exact hk
    | cons b l ih =>
      intro Z k hk hZ hb he
      obtain ⟨hb1,hb2⟩ := hb b (by simp)
      have hl' : ∀ y ∈ l,y.length = 4 ∧ Sp.fitR y (plusV (-1) Y X) = true := fun y hy => ⟨(hb y (by simp [hy])).1.mv.len,(hb y (by simp [hy])).2⟩
      have g := fun j => plusV_get (k := 1) hZ.len hb1.mv.len j
      have Zp := Sp.posV_get.1 hZ.pos
      have hf := (Sp.fitR_iff (by rw [hb1.mv.len,hD] : b.length = _)).1 hb2
      have hp : posV (plusV 1 Z b) = true := Sp.posV_get.2 fun j => by
        have h1 := Sp.sum_sign hD (j := j) hl'
        have h2 := hf j
        have h3 := he j
        have h4 := Yp j
        have h5 := Zp j
        rw [g j]
        simp only [Sp.sumC,List.foldr_cons] at h3 h1
        omega
      have := ih (plusV 1 Z b) (k + 1) (hk.step ⟨b,hb1,rfl,hp⟩) (hZ.step hX hb1 hp) (fun y hy => hb y (by simp [hy])) fun j => by
        have h3 := he j
        rw [g j]
        simp only [Sp.sumC,List.foldr_cons] at h3 ⊢
        omega
      rw [List.length_cons,show k + (l.length + 1) = k + 1 + l.length by omega]
      exact this
  refine ⟨l.length,by omega,?_⟩
  have := key l X 0 .start (Sp.Fam.self hX hXp hX0) hl.each fun j => by
    have := hl.sum j
    rw [plusV_get h.len hX] at this
    omega
  simpa using this
structure WayP (a : List (List Int)) (X Y : List Int) (P : List (List Int)) : Prop where
  head : P.head? = some X
  last : P.getLast? = some Y
  chn : Chn (Nr a) P
  few : P.length ≤ 25
  short : ∀ L,Hop (Nr a) X Y L → P.length ≤ L + 1
theorem Chn.mem {a : List (List Int)} {X : List Int} (hX : Sp.Fam (a.map Sp.pad) (a.getD 0 []).length X X) : ∀ {l : List (List Int)} {u : List Int},Sp.Fam (a.map Sp.pad) (a.getD 0 []).length X u → Chn (Nr a) (u :: l) → ∀ v ∈ u :: l,Sp.Fam (a.map Sp.pad) (a.getD 0 []).length X v
  | [],u,hu,_,v,hv => by simp at hv; subst hv; exact hu
  | w :: l,u,hu,hc,v,hv => by
    rcases List.mem_cons.1 hv with rfl | hv
    · exact hu
    · obtain ⟨m,hM,rfl,hp⟩ := hc.1
      exact Chn.mem hX (hu.step hX.len hM hp) hc.2 v hv
theorem Hop.fam {a : List (List Int)} {X Y : List Int} {n : Nat} (hX : Sp.Fam (a.map Sp.pad) (a.getD 0 []).length X X) (h : Hop (Nr a) X Y n) : Sp.Fam (a.map Sp.pad) (a.getD 0 []).length X Y := by
  induction h with
  | start => exact hX
  | step h hy ih =>
    obtain ⟨m,hM,rfl,hp⟩ := hy
    exact ih.step hX.len hM hp
theorem WayP.fam {a : List (List Int)} {X Y : List Int} {P : List (List Int)} (hX : Sp.Fam (a.map Sp.pad) (a.getD 0 []).length X X) (h : WayP a X Y P) : ∀ v ∈ P,Sp.Fam (a.map Sp.pad) (a.getD 0 []).length X v := by
  have hh := h.head
  have hc := h.chn
  cases P with
  | nil => cases hh
  | cons u l =>
    simp at hh; subst hh
    exact Chn.mem hX hX hc
end Go.Proofs.Ytipfjfmdjmaflaa
