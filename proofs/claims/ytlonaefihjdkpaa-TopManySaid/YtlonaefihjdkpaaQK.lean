/- A function called in a heap that is told otherwise; what it leaves is told back. -/
import Derived.Test.YtlonaefihjdkpaaAS
namespace Go.Abs
open AVal
theorem SimH.deads {φ φ' : Nat → Option Nat} {G : Nat → Prop} {H : AHeap} {w : World} (h : SimH φ G H w) (m : Nat) (hφ : ∀ i,i < H.length → φ' i = φ i) :
    SimH φ' G (H ++ List.replicate m .dead) w ∧ (env φ G H w).Le (env φ' G (H ++ List.replicate m .dead) w) ∧ ∀ r,Owned φ' (H ++ List.replicate m .dead) r ↔ Owned φ H r := by
  have hget : ∀ (j : Nat) b,(H ++ List.replicate m Blk.dead)[j]? = some b → (j < H.length ∧ H[j]? = some b) ∨ b = .dead := fun j b hj => by
    rw [List.getElem?_append] at hj
    split at hj
    · rename_i hlt; exact .inl ⟨hlt,hj⟩
    · rw [List.getElem?_replicate] at hj
      split at hj
      · exact .inr (by cases hj; rfl)
      · cases hj
  have hput : ∀ (j : Nat) b,H[j]? = some b → (H ++ List.replicate m Blk.dead)[j]? = some b := fun j b hj => by
    rw [List.getElem?_append_left (List.getElem?_eq_some_iff.1 hj).1]; exact hj
  have hown : ∀ r,Owned φ' (H ++ List.replicate m .dead) r ↔ Owned φ H r := fun r => by
    constructor
    · rintro ⟨i,b,hi,hb,hr⟩
      rcases hget i b hi with ⟨hlt,hi'⟩ | rfl
      · exact ⟨i,b,hi',hb,by rw [← hφ i hlt]; exact hr⟩
      · cases hb
    · rintro ⟨i,b,hi,hb,hr⟩
      exact ⟨i,b,hput i b hi,hb,by rw [hφ i (List.getElem?_eq_some_iff.1 hi).1]; exact hr⟩
  have hle : (env φ G H w).Le (env φ' G (H ++ List.replicate m .dead) w) := ⟨fun i hi => hφ i (Dom.lt hi),fun i ⟨b,hb,hne⟩ => ⟨b,hput i b hb,hne⟩,fun b hb => .inl (hb.elim .inl fun h => .inr ((hown b).1 h)),fun _ _ _ => rfl,fun r c e f hc => ⟨c,hc,rfl⟩⟩
  refine ⟨⟨h.glt,fun i j b c r hi hj hb hc hir hjr => ?_,fun i b r hi hb hir => ?_,fun i b hi => ?_⟩,hle,hown⟩
  · rcases hget i b hi with ⟨h1,hi'⟩ | rfl
    · rcases hget j c hj with ⟨h2,hj'⟩ | rfl
      · rw [hφ i h1] at hir; rw [hφ j h2] at hjr
        exact h.inj i j b c r hi' hj' hb hc hir hjr
      · cases hc
    · cases hb
  · rcases hget i b hi with ⟨h1,hi'⟩ | rfl
    · rw [hφ i h1] at hir; exact h.dis i b r hi' hb hir
    · cases hb
  · rcases hget i b hi with ⟨h1,hi'⟩ | rfl
    · rw [hφ i h1]; exact (h.blk i b hi').mono hle fun _ _ => rfl
    · trivial
theorem Spec.renum {P : Program} {f : FuncId} {args args1 : List AVal} {H H1 : AHeap} {ρ : List (Option Nat)} {R R' : AVal → AHeap → Prop} (h : Spec P f args1 H1 R) (hl : args1.length = args.length) (hw : Wk 0 [] ρ (entryFr 0 args) H (entryFr 0 args1) H1)
    (hk : ∀ v H2,R v H2 → ∃ ρ' v' H3,Wk 0 [] ρ' [(0,v)] (H2 ++ List.replicate H.length .dead) [(0,v')] H3 ∧ R' v' H3 ∧ H.length ≤ H3.length ∧ ∀ i,i < H.length → (ρ'[i]?).join = some (H2.length + i) ∨ ∃ j,(ρ'[i]?).join = some j ∧ j < H1.length ∧ (ρ[j]?).join = some i) : Spec P f args H R' := by
  refine ⟨h.1,fun φ G w rargs hs hr => ?_⟩
  have hs0 : SimS 0 φ G (entryFr 0 args) H [] (rargs ++ Array.replicate 0 undef).size { tmps := rargs ++ Array.replicate 0 undef,defers := [] } w :=
    ⟨hs,entry_rep hr 0,rfl,rfl,fun _ hm => (by cases hm),Nat.zero_le _⟩
  obtain ⟨k1,k2⟩ := hw.sound hs0
  have hc : CRep (env (wkφ φ ρ) G H1 w) args1 rargs := ⟨by rw [hl]; exact hr.1,fun j u hu => by
    have h3 := k1.fr j
    rw [entryFr_get] at h3
    simp only [Nat.zero_le,if_true,Nat.sub_zero,List.getD_eq_getElem?_getD,hu,Option.getD_some] at h3
    have hj : j < rargs.size := by rw [hr.1,← hl]; exact (List.getElem?_eq_some_iff.1 hu).1
    simpa [Array.getElem?_append_left hj] using h3⟩
  refine (h.2 _ G w rargs k1.sim hc).mono fun e w' ⟨rv,he,v,H2,φ1,hR,h3,h4,h5⟩ => ?_
  obtain ⟨ρ',v',H3,hw',hR',hlen,hfix⟩ := hk v H2 hR
  have hbig : H1.length ≤ H2.length := h4.len (Nat.le_refl _)
  let φ2 : Nat → Option Nat := fun i => if i < H2.length then φ1 i else φ (i - H2.length)
  have e2 : ∀ i,i < H2.length → φ2 i = φ1 i := fun i hi => if_pos hi
  obtain ⟨hs2,hle2,hown2⟩ := h3.deads (φ' := φ2) H.length e2
  have hs3 : SimS 0 φ2 G [(0,v)] (H2 ++ List.replicate H.length .dead) [] 1 { tmps := #[rv],defers := [] } w' := by
    refine ⟨hs2,fun t => ?_,rfl,rfl,fun _ hm => (by cases hm),Nat.zero_le _⟩
    cases t with
    | zero => simpa [Fr.get] using h5.mono hle2
    | succ t => simp [Fr.get]; exact .any _
  obtain ⟨m1,m2⟩ := hw'.sound hs3
  have hE := hw'.wkE hs2
  have own : ∀ r,Owned (wkφ φ2 ρ') H3 r → Owned φ H r ∨ w.heap.size ≤ r := fun r hr => by
    rcases m2.own r hr with h | h
    · rcases h4.own r ((hown2 r).1 h) with h | h
      · exact k2.own r h
      · exact .inr h
    · exact .inr (Nat.le_trans h4.size h)
  refine ⟨rv,he,v',H3,wkφ φ2 ρ',hR',m1.sim,⟨fun i hi => ?_,fun i hi _ => hE.dom (by rw [hw'.len]; omega),fun _ => hlen,own,fun r hr ho => h4.frame r hr fun h => ?_,h4.shape,h4.size,h4.os,h4.tape,h4.output,h4.drawn⟩,by simpa [Fr.get] using m1.fr 0⟩
  · show (ρ'[i]?).join.bind φ2 = φ i
    rcases hfix i hi with h | ⟨j,h,hj,hji⟩
    · rw [h]
      show φ2 (H2.length + i) = φ i
      show (if H2.length + i < H2.length then _ else _) = _
      rw [if_neg (by omega),Nat.add_sub_cancel_left]
    · rw [h]
      show φ2 j = φ i
      rw [e2 j (by omega),h4.fix j hj]
      show (ρ[j]?).join.bind φ = φ i
      rw [hji]; rfl
  · rcases k2.own r h with h | h
    · exact ho h
    · omega
end Go.Abs
