/- Plain: the reference's search,level by level. -/
import Derived.Test.YtipfjfmdjmaflaaOB
namespace Go.Proofs.Ytipfjfmdjmaflaa
open Go.Abs AVal
set_option linter.unusedSimpArgs false
section
variable {a : List (List Int)} {x y : List Int} {far : Nat} {lv vis nx : List (List Int)} {ks : List Int} {p i j : Nat}
theorem hop_box (hv : Sp.vecOk a x 0 6 = true) {u : List Int} {m : Nat} (h : Hop (Nr a) (Sp.pad x) u m) : u.length = 4 ∧ posV u = true ∧ (∀ j,(a.getD 0 []).length ≤ j → u.getD j 0 = 0) ∧ ∀ j,u.getD j 0 ≤ 6 + 16 * m := by
  obtain ⟨hm,xl,Xl,bX,pX,bx,Xp,px⟩ := vecOk_spec (by decide) hv
  obtain ⟨q1,q2,-,n4⟩ := Sp.mat_cols hm rfl
  have hB := Sp.basB_is (a.map Sp.pad) (a.getD 0 []).length
  have hf := h.fam (Sp.Fam.self Xl Xp pX)
  rw [← nearR_Nr hm hB] at h
  obtain ⟨h1,h2,h3⟩ := h.box Xl pX bX (fun m hm' => ((Sp.mem_bs hm hB).1 hm').mv.len) fun m hm' => Sp.inB_mono (((Sp.mem_bs hm hB).1 hm').bnd q1 q2 n4) (by unfold Sp.bnd; split <;> (try split) <;> (try split) <;> omega)
  exact ⟨h1,h2,hf.pad,h3⟩
structure Vis (a : List (List Int)) (x y : List Int) (far : Nat) (lv vis : List (List Int)) (ks : List Int) (p : Nat) : Prop where
  tab : Tab ks p
  p1 : 1 ≤ p
  p37 : p ≤ 37
  room : 2 * cnt ks ≤ 2 ^ p
  nd : vis.Nodup
  mem : ∀ u,u ∈ vis ↔ u.length = (a.getD 0 []).length ∧ ∃ m,m ≤ far ∧ Hop (Nr a) (Sp.pad x) (Sp.pad u) m
  lev : ∀ z,z ∈ lv ↔ z.length = (a.getD 0 []).length ∧ Hop (Nr a) (Sp.pad x) (Sp.pad z) far ∧ ∀ m,m < far → ¬ Hop (Nr a) (Sp.pad x) (Sp.pad z) m
  keys : ∀ z,z ≠ 0 → (z ∈ ks ↔ ∃ u ∈ vis,keyOf u = z)
  few : cnt ks ≤ vis.length
  early : ∀ m,m < far → ¬ Hop (Nr a) (Sp.pad x) (Sp.pad y) m
  short : lv.length ≤ 27439591201
structure VisI (a : List (List Int)) (x y : List Int) (far : Nat) (lv vis nx : List (List Int)) (ks : List Int) (p i j : Nat) : Prop where
  tab : Tab ks p
  p1 : 1 ≤ p
  p37 : p ≤ 37
  room : 2 * cnt ks ≤ 2 ^ p
  nd : (vis ++ nx).Nodup
  mem : ∀ u,u ∈ vis ↔ u.length = (a.getD 0 []).length ∧ ∃ m,m ≤ far ∧ Hop (Nr a) (Sp.pad x) (Sp.pad u) m
  lev : ∀ z,z ∈ lv ↔ z.length = (a.getD 0 []).length ∧ Hop (Nr a) (Sp.pad x) (Sp.pad z) far ∧ ∀ m,m < far → ¬ Hop (Nr a) (Sp.pad x) (Sp.pad z) m
  keys : ∀ z,z ≠ 0 → (z ∈ ks ↔ ∃ u ∈ vis ++ nx,keyOf u = z)
  few : cnt ks ≤ (vis ++ nx).length
  early : ∀ m,m < far → ¬ Hop (Nr a) (Sp.pad x) (Sp.pad y) m
  short : lv.length ≤ 27439591201
  sub : ∀ u ∈ nx,u.length = (a.getD 0 []).length ∧ ∃ z ∈ lv,Nr a (Sp.pad z) (Sp.pad u)
  cov : ∀ k,k < i → ∀ u,u.length = (a.getD 0 []).length → Nr a (Sp.pad (lv.getD k [])) (Sp.pad u) → u ∈ vis ++ nx
  covj : ∀ k,k < j → posV (plusV 1 (lv.getD i []) ((Sp.basL a).getD k [])) = true → plusV 1 (lv.getD i []) ((Sp.basL a).getD k []) ∈ vis ++ nx
  noty : ∀ k,k < i → lv.getD k [] ≠ y
theorem VisI.has (hv : Sp.vecOk a x 0 6 = true) (h : VisI a x y far lv vis nx ks p i j) : ∀ u ∈ vis ++ nx,u.length = (a.getD 0 []).length ∧ ∃ m,m ≤ far + 1 ∧ Hop (Nr a) (Sp.pad x) (Sp.pad u) m := fun u hu => by
  rcases List.mem_append.1 hu with hu | hu
  · obtain ⟨h1,m,h2,h3⟩ := (h.mem u).1 hu
    exact ⟨h1,m,by omega,h3⟩
  · obtain ⟨h1,z,hz,hn⟩ := h.sub u hu
    exact ⟨h1,far + 1,Nat.le_refl _,((h.lev z).1 hz).2.1.step hn⟩
theorem VisI.rng (hv : Sp.vecOk a x 0 6 = true) (hf : far ≤ 24) (h : VisI a x y far lv vis nx ks p i j) : ∀ u ∈ vis ++ nx,∀ z ∈ u,0 ≤ z ∧ z ≤ 406 := fun u hu z hz => by
  obtain ⟨h1,m,hm,hh⟩ := h.has hv u hu
  obtain ⟨b1,b2,-,b4⟩ := hop_box hv hh
  have hz' : z ∈ Sp.pad u := by unfold Sp.pad; exact List.mem_append_left _ hz
  obtain ⟨k,hk,rfl⟩ := List.getElem_of_mem hz'
  have c1 := Sp.posV_get.1 b2 k
  have c2 := b4 k
  rw [List.getD_eq_getElem?_getD,List.getElem?_eq_getElem hk,Option.getD_some] at c1 c2
  omega
theorem VisI.size (hv : Sp.vecOk a x 0 6 = true) (hf : far ≤ 24) (h : VisI a x y far lv vis nx ks p i j) : (vis ++ nx).length ≤ 27439591201 := by
  have hin := h.has hv
  have n4 := (mat_rows (vecOk_spec (by decide) hv).1).2.2.2
  have hnd : ((vis ++ nx).map Sp.pad).Nodup := by
    unfold List.Nodup
    rw [List.pairwise_map]
    refine h.nd.imp_of_mem fun {u w} hu hw hne e => hne ?_
    rw [← Sp.pad_take (hin u hu).1,← Sp.pad_take (hin w hw).1,e]
  have := box_gen 407 hnd fun u hu => by
    obtain ⟨w,hw,rfl⟩ := List.mem_map.1 hu
    obtain ⟨h1,m,hm,hh⟩ := hin w hw
    obtain ⟨b1,b2,-,b4⟩ := hop_box hv hh
    refine ⟨b1,fun z hz => ?_⟩
    obtain ⟨k,hk,rfl⟩ := List.getElem_of_mem hz
    have c1 := Sp.posV_get.1 b2 k
    have c2 := b4 k
    rw [List.getD_eq_getElem?_getD,List.getElem?_eq_getElem hk,Option.getD_some] at c1 c2
    omega
  rw [List.length_map] at this
  omega
theorem VisI.start (h : Vis a x y far lv vis ks p) : VisI a x y far lv vis [] ks p 0 0 :=
  ⟨h.tab,h.p1,h.p37,h.room,by rw [List.append_nil]; exact h.nd,h.mem,h.lev,by rw [List.append_nil]; exact h.keys,by rw [List.append_nil]; exact h.few,h.early,h.short,by simp,fun k hk => absurd hk (Nat.not_lt_zero k),fun k hk => absurd hk (Nat.not_lt_zero k),fun k hk => absurd hk (Nat.not_lt_zero k)⟩
theorem VisI.skip (h : VisI a x y far lv vis nx ks p i j) (hn : posV (plusV 1 (lv.getD i []) ((Sp.basL a).getD j [])) = false) : VisI a x y far lv vis nx ks p i (j + 1) :=
  have hc : ∀ k,k < j + 1 → posV (plusV 1 (lv.getD i []) ((Sp.basL a).getD k [])) = true → plusV 1 (lv.getD i []) ((Sp.basL a).getD k []) ∈ vis ++ nx := fun k hk hp => by
    by_cases hkj : k < j
    · exact h.covj k hkj hp
    · obtain rfl : k = j := by omega
      rw [hn] at hp; cases hp
  { h with covj := hc }
theorem step_near (hv : Sp.vecOk a x 0 6 = true) {z b : List Int} (zl : z.length = (a.getD 0 []).length) (hb : b ∈ Sp.basL a) (hp : posV (plusV 1 z b) = true) : (plusV 1 z b).length = (a.getD 0 []).length ∧ Nr a (Sp.pad z) (Sp.pad (plusV 1 z b)) := by
  have hm := (vecOk_spec (by decide) hv).1
  obtain ⟨bl,hM⟩ := (Sp.mem_basL hm).1 hb
  exact ⟨by unfold plusV; rw [List.length_zipWith]; omega,Sp.pad b,hM,Sp.pad_plus zl bl,by rw [Sp.posV_pad]; exact hp⟩
theorem near_step (hv : Sp.vecOk a x 0 6 = true) {z u : List Int} (zl : z.length = (a.getD 0 []).length) (ul : u.length = (a.getD 0 []).length) (h : Nr a (Sp.pad z) (Sp.pad u)) : ∃ b ∈ Sp.basL a,u = plusV 1 z b ∧ posV (plusV 1 z b) = true := by
  have hm := (vecOk_spec (by decide) hv).1
  have n4 := (mat_rows hm).2.2.2
  obtain ⟨m,hM,e,hp⟩ := h
  have em := Sp.take_pad n4 hM.mv.len hM.mv.pad
  have ml : (m.take (a.getD 0 []).length).length = (a.getD 0 []).length := by rw [List.length_take,hM.mv.len]; omega
  have eu : u = plusV 1 z (m.take (a.getD 0 []).length) := by
    rw [← Sp.pad_take ul,e,← em,← Sp.pad_plus zl ml,Sp.pad_take (by unfold plusV; rw [List.length_zipWith]; omega)]
    rw [em]
  refine ⟨_,(Sp.mem_basL hm).2 ⟨ml,by rw [em]; exact hM⟩,eu,?_⟩
  rw [← eu,← Sp.posV_pad]; exact hp
theorem VisI.put (hv : Sp.vecOk a x 0 6 = true) (hf : far ≤ 24) (h : VisI a x y far lv vis nx ks p i j) (hi : i < lv.length) (hj : j < (Sp.basL a).length) (hp : posV (plusV 1 (lv.getD i []) ((Sp.basL a).getD j [])) = true) {u : List Int} (hu : plusV 1 (lv.getD i []) ((Sp.basL a).getD j []) = u)
    {ks' : List Int} {p' : Nat} {b : Bool} (ht : TabIn ks (keyOf u) ks' p' b) (q1 : 1 ≤ p') (q2 : p' ≤ 37) (q3 : 2 * cnt ks' ≤ 2 ^ p') :
    VisI a x y far lv vis (if b then nx ++ [u] else nx) ks' p' i (j + 1) := by
  have hz : lv.getD i [] ∈ lv := mem_getD hi
  have zl := ((h.lev _).1 hz).1
  have hst := step_near hv zl (mem_getD hj) hp
  rw [hu] at hst
  obtain ⟨ul,hnr⟩ := hst
  have ur : ∀ z ∈ u,0 ≤ z ∧ z ≤ 8000 := fun z hz' => by
    obtain ⟨b1,b2,-,b4⟩ := hop_box hv (((h.lev _).1 hz).2.1.step hnr)
    have hz'' : z ∈ Sp.pad u := by unfold Sp.pad; exact List.mem_append_left _ hz'
    obtain ⟨k,hk,rfl⟩ := List.getElem_of_mem hz''
    have c1 := Sp.posV_get.1 b2 k
    have c2 := b4 k
    rw [List.getD_eq_getElem?_getD,List.getElem?_eq_getElem hk,Option.getD_some] at c1 c2
    omega
  have wr : ∀ w ∈ vis ++ nx,∀ z ∈ w,0 ≤ z ∧ z ≤ 8000 := fun w hw z hz' => by have := h.rng hv hf w hw z hz'; omega
  have k0 : keyOf u ≠ 0 := by have := (key_bnd ur).1; omega
  have hin : keyOf u ∈ ks ↔ u ∈ vis ++ nx := by
    rw [h.keys _ k0]
    constructor
    · rintro ⟨w,hw,e⟩
      have := key_inj (by rw [(h.has hv w hw).1,ul]) (wr w hw) ur e
      rw [← this]; exact hw
    · exact fun hm => ⟨u,hm,rfl⟩
  cases b with
  | false =>
    have hmem : u ∈ vis ++ nx := by
      rw [← hin]
      apply Classical.byContradiction
      intro hn
      have := ht.new.2 hn
      cases this
    refine { h with tab := ht.tab,p1 := q1,p37 := q2,room := q3,keys := fun z hz' => ?_,few := ?_,covj := fun k hk hp' => ?_ }
    · rw [ht.mem z hz',h.keys z hz']
      exact ⟨fun e => e.elim id fun e => ⟨u,hmem,e.symm⟩,.inl⟩
    · have := ht.cnt
      have := h.few
      simp at *; omega
    · by_cases hkj : k < j
      · exact h.covj k hkj hp'
      · obtain rfl : k = j := by omega
        rw [hu]; exact hmem
  | true =>
    have hnm : u ∉ vis ++ nx := fun hm => ht.new.1 rfl (hin.2 hm)
    have ea : vis ++ (nx ++ [u]) = (vis ++ nx) ++ [u] := (List.append_assoc _ _ _).symm
    simp only [if_true]
    refine { h with tab := ht.tab,p1 := q1,p37 := q2,room := q3,nd := ?_,keys := fun z hz' => ?_,few := ?_,sub := fun w hw => ?_,cov := fun k hk w hwl hn => ?_,covj := fun k hk hp' => ?_ }
    · rw [ea]
      exact List.nodup_append.2 ⟨h.nd,by simp,fun w hw v hv' => by simp at hv'; subst hv'; exact fun e => hnm (e ▸ hw)⟩
    · rw [ht.mem z hz',h.keys z hz',ea]
      constructor
      · rintro (⟨w,hw,e⟩ | e)
        · exact ⟨w,List.mem_append_left _ hw,e⟩
        · exact ⟨u,by simp,e.symm⟩
      · rintro ⟨w,hw,e⟩
        rcases List.mem_append.1 hw with hw | hw
        · exact .inl ⟨w,hw,e⟩
        · simp at hw; subst hw; exact .inr e.symm
    · have := ht.cnt
      have := h.few
      rw [ea,List.length_append]
      simp at *; omega
    · rcases List.mem_append.1 hw with hw | hw
      · exact h.sub w hw
      · simp at hw; subst hw; exact ⟨ul,_,hz,hnr⟩
    · rw [ea]; exact List.mem_append_left _ (h.cov k hk w hwl hn)
    · rw [ea]
      by_cases hkj : k < j
      · exact List.mem_append_left _ (h.covj k hkj hp')
      · obtain rfl : k = j := by omega
        rw [hu]; simp
theorem VisI.next (hv : Sp.vecOk a x 0 6 = true) (h : VisI a x y far lv vis nx ks p i (Sp.basL a).length) (hi : i < lv.length) (hy : lv.getD i [] ≠ y) : VisI a x y far lv vis nx ks p (i + 1) 0 := by
  have hz : lv.getD i [] ∈ lv := mem_getD hi
  have zl := ((h.lev _).1 hz).1
  refine { h with cov := fun k hk u ul hn => ?_,covj := fun k hk => absurd hk (Nat.not_lt_zero k),noty := fun k hk => ?_ }
  · by_cases hki : k < i
    · exact h.cov k hki u ul hn
    · obtain rfl : k = i := by omega
      obtain ⟨b,hb,e,hp⟩ := near_step hv zl ul hn
      obtain ⟨m,hm,rfl⟩ := List.getElem_of_mem hb
      have gb : (Sp.basL a).getD m [] = (Sp.basL a)[m] := by rw [List.getD_eq_getElem?_getD,List.getElem?_eq_getElem hm]; rfl
      rw [e,← gb]
      exact h.covj m hm (by rw [gb]; exact hp)
  · by_cases hki : k < i
    · exact h.noty k hki
    · obtain rfl : k = i := by omega
      exact hy
theorem VisI.done (hv : Sp.vecOk a x 0 6 = true) (hf : far ≤ 24) (yl : y.length = (a.getD 0 []).length) (h : VisI a x y far lv vis nx ks p lv.length 0) : Vis a x y (far + 1) nx (vis ++ nx) ks p := by
  have n4 := (mat_rows (vecOk_spec (by decide) hv).1).2.2.2
  have hlvk : ∀ z ∈ lv,∃ k,k < lv.length ∧ lv.getD k [] = z := fun z hz => by
    obtain ⟨k,hk,rfl⟩ := List.getElem_of_mem hz
    exact ⟨k,hk,by rw [List.getD_eq_getElem?_getD,List.getElem?_eq_getElem hk]; rfl⟩
  have hy : ∀ m,m < far + 1 → ¬ Hop (Nr a) (Sp.pad x) (Sp.pad y) m := fun m hm hh => by
    by_cases hmf : m < far
    · exact h.early m hmf hh
    · obtain rfl : m = far := by omega
      obtain ⟨k,hk,e⟩ := hlvk y ((h.lev y).2 ⟨yl,hh,h.early⟩)
      exact h.noty k hk e
  have hnx : ∀ u,u ∈ nx ↔ u.length = (a.getD 0 []).length ∧ Hop (Nr a) (Sp.pad x) (Sp.pad u) (far + 1) ∧ ∀ m,m < far + 1 → ¬ Hop (Nr a) (Sp.pad x) (Sp.pad u) m := fun u => by
    constructor
    · intro hu
      obtain ⟨ul,z,hz,hn⟩ := h.sub u hu
      refine ⟨ul,((h.lev z).1 hz).2.1.step hn,fun m hm hh => ?_⟩
      have hvis : u ∈ vis := (h.mem u).2 ⟨ul,m,by omega,hh⟩
      exact (List.nodup_append.1 h.nd).2.2 u hvis u hu rfl
    · rintro ⟨ul,hh,hno⟩
      have hstep : ∃ z,z ∈ lv ∧ Nr a (Sp.pad z) (Sp.pad u) := by
        generalize hU : Sp.pad u = U at hh hno
        generalize hF : far + 1 = F at hh
        cases hh with
        | start => omega
        | @step Z _ m hZ hn =>
          obtain rfl : m = far := by omega
          obtain ⟨b1,b2,b3,-⟩ := hop_box hv hZ
          have eZ := Sp.take_pad n4 b1 b3
          refine ⟨Z.take (a.getD 0 []).length,(h.lev _).2 ⟨by rw [List.length_take]; omega,by rw [eZ]; exact hZ,fun m' hm' hh' => ?_⟩,by rw [eZ]; exact hn⟩
          rw [eZ] at hh'
          exact hno (m' + 1) (by omega) (hh'.step hn)
      obtain ⟨z,hz,hn⟩ := hstep
      obtain ⟨k,hk,rfl⟩ := hlvk z hz
      rcases List.mem_append.1 (h.cov k hk u ul hn) with hu | hu
      · obtain ⟨-,m,hm,hh'⟩ := (h.mem u).1 hu
        exact absurd hh' (hno m (by omega))
      · exact hu
  refine ⟨h.tab,h.p1,h.p37,h.room,h.nd,fun u => ?_,hnx,h.keys,h.few,hy,by have := h.size hv hf; rw [List.length_append] at this; omega⟩
  rw [List.mem_append,h.mem,hnx]
  constructor
  · rintro (⟨ul,m,hm,hh⟩ | ⟨ul,hh,-⟩)
    · exact ⟨ul,m,by omega,hh⟩
    · exact ⟨ul,far + 1,Nat.le_refl _,hh⟩
  · rintro ⟨ul,m,hm,hh⟩
    by_cases hex : ∃ m',m' ≤ far ∧ Hop (Nr a) (Sp.pad x) (Sp.pad u) m'
    · exact .inl ⟨ul,hex⟩
    · have hmf : m = far + 1 := by
        by_cases h' : m ≤ far
        · exact absurd ⟨m,h',hh⟩ hex
        · omega
      subst hmf
      exact .inr ⟨ul,hh,fun m' hm' hh' => hex ⟨m',by omega,hh'⟩⟩
end
end Go.Proofs.Ytipfjfmdjmaflaa
