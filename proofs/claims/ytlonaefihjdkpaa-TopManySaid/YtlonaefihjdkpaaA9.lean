/- Code: what is asked of a state so that a piece of code goes on as it should; and functions. -/
import Derived.Test.YtlonaefihjdkpaaAD
import Derived.RangeFuncRecord
import Derived.Sort.LoopGhostIn
namespace Go.Abs
open AVal
section
variable {B : Nat} {G : Nat → Prop} {φ : Nat → Option Nat} {H : AHeap} {w : World}
theorem nx_obj (hs : SimH φ G H w) {i r : Nat} {b b' : Blk} {o o' : Obj} (hi : H[i]? = some b) (ha0 : b.alive = true) (hφ : φ i = some r) (hw : w.heap[r]? = some o) (hnc : ∀ c e f,o ≠ .cells c e f) (hh : b' ≠ .hole)
    (hb : ∀ E : Env,(env φ G H w).Le E → E.w = w.putObj r o' → BlkRep E (some r) b') : Nx B G φ H w φ (H.set i b') (w.putObj r o') := by
  have hilt : i < H.length := (List.getElem?_eq_some_iff.1 hi).1
  have hget : ∀ j,(H.set i b')[j]? = if j = i then some b' else H[j]? := fun j => by
    rw [List.getElem?_set]
    by_cases h : i = j
    · subst h; simp [hilt]
    · simp [h,Ne.symm h]
  have hdom : ∀ j,Dom H j → Dom (H.set i b') j := fun j hj => by
    obtain ⟨c,hc,hne⟩ := hj
    unfold Dom; rw [hget]
    by_cases h : j = i
    · exact ⟨b',by simp [h],hh⟩
    · exact ⟨c,by rw [if_neg h]; exact hc,hne⟩
  have hown : ∀ q,Owned φ (H.set i b') q → Owned φ H q := by
    rintro q ⟨j,c,hj,ha,hq⟩
    rw [hget] at hj
    by_cases h : j = i
    · subst h; exact ⟨j,b,hi,ha0,hq⟩
    · rw [if_neg h] at hj; exact ⟨j,c,hj,ha,hq⟩
  have hri : Owned φ H r := ⟨i,_,hi,ha0,hφ⟩
  have hle : (env φ G H w).Le (env φ G (H.set i b') (w.putObj r o')) := by
    refine ⟨fun _ _ => rfl,hdom,fun q hq => ?_,fun q _ hx => ?_,fun q d e' f hd => ?_⟩
    · rcases hq with hq | hq
      · exact .inl (.inl hq)
      · exact .inl (.inr (hown q hq))
    · exact World.putObj_heap_other (fun h => hx (.inr (by rw [h]; exact hri)))
    · by_cases h : q = r
      · subst h
        have hd' : w.heap[q]? = some (.cells d e' f) := hd
        rw [hw] at hd'; exact absurd (Option.some.inj hd') (hnc _ _ _)
      · exact ⟨d,by show (w.putObj r o').heap[q]? = _; rw [World.putObj_heap_other h]; exact hd,rfl⟩
  refine ⟨⟨fun q hq => by show q < (w.putObj r o').heap.size; rw [World.putObj_size]; exact hs.glt q hq,fun j k c d q hj hk ha hb' hjq hkq => ?_,fun j c q hj ha hq => ?_,fun j c hj => ?_⟩,hle,
    ⟨fun _ _ => rfl,fun j _ hj => hdom j hj,fun h => by simpa using h,fun q hq => .inl (hown q hq),fun q hq hx => World.putObj_heap_other (fun h => hx (by rw [h]; exact hri)),hle.shape,by simp,rfl,rfl,rfl,Nat.le_refl _⟩⟩
  · rw [hget] at hj hk
    by_cases h1 : j = i
    · subst h1
      by_cases h2 : k = j
      · exact h2.symm
      · rw [if_neg h2] at hk; exact hs.inj j k _ d q hi hk ha0 hb' hjq hkq
    · rw [if_neg h1] at hj
      by_cases h2 : k = i
      · subst h2; exact hs.inj j k c _ q hj hi ha ha0 hjq hkq
      · rw [if_neg h2] at hk; exact hs.inj j k c d q hj hk ha hb' hjq hkq
  · rw [hget] at hj
    by_cases h1 : j = i
    · subst h1; exact hs.dis j _ q hi ha0 hq
    · rw [if_neg h1] at hj; exact hs.dis j c q hj ha hq
  · rw [hget] at hj
    by_cases h1 : j = i
    · subst h1
      rw [if_pos rfl] at hj
      cases hj
      rw [hφ]
      exact hb _ hle rfl
    · rw [if_neg h1] at hj
      by_cases ha : c.alive = true
      · refine (hs.blk j c hj).mono hle (fun q hq => World.putObj_heap_other (fun h => ?_))
        subst h
        exact h1 (hs.inj j i c _ q hj hi ha ha0 hq hφ)
      · cases c <;> first | trivial | exact absurd rfl ha
end
inductive Ex where
  | norm
  | exit (id : Nat)
  | ret
  deriving DecidableEq
def exOf : Exit → Option Ex
  | .normal => some .norm
  | .exit id => some (.exit id)
  | .ret => some .ret
  | _ => none
inductive ICode where
  | skip
  | keep (ks : List Nat) (a : ICode)
  | ops (l : List IIns)
  | draw (m : Nat) (ds : List Nat) (pl : DPlan)
  | seq (a b : ICode)
  | cond (c : IOpd) (a b : ICode)
  | block (id : Nat) (b : ICode)
  | scope (b : ICode)
  /-- Here the state is told less exactly. -/
  | view (a : ICode)
  | loop (b : ICode)
  | exit (id : Nat)
  | ret
  | range (f : IOpd) (ps : List Nat) (as bd : Code)
  /-- Not understood: not to be reached. -/
  | no
def ILoopK (B : Nat) (ms : List Nat) {ι : Type} (St : ι → Fr × AHeap) (μ : ι → Nat) (i : ι) (Q : Ex → Fr → AHeap → List Nat → Prop) : Ex → Fr → AHeap → List Nat → Prop
  | .norm,fr,H,ms' => ms' = ms ∧ ∃ j ρ,μ j < μ i ∧ Wk B ms ρ fr H (St j).1 (St j).2
  | e,fr,H,ms' => Q e fr H ms'
def thenQ (K : Fr → AHeap → List Nat → Prop) (Q : Ex → Fr → AHeap → List Nat → Prop) : Ex → Fr → AHeap → List Nat → Prop
  | .norm,fr,H,ms => K fr H ms
  | e,fr,H,ms => Q e fr H ms
def blockQ (id : Nat) (Q : Ex → Fr → AHeap → List Nat → Prop) : Ex → Fr → AHeap → List Nat → Prop
  | .exit i,fr,H,ms => if i = id then Q .norm fr H ms else Q (.exit i) fr H ms
  | e,fr,H,ms => Q e fr H ms
section
variable (P : Program) (B n : Nat)
def icond (v : AVal) (yes no : Prop) : Prop :=
  match v with
  | .val (.bool t) => (t = true → yes) ∧ (t = false → no)
  | _ => False
def afterR (pend : Option Code) (fr : Fr) (H : AHeap) (ms : List Nat) (Q : Ex → Fr → AHeap → List Nat → Prop) : Prop :=
  match pend with
  | none => Q .norm fr H ms
  | some (.exit id) => Q (.exit id) fr H ms
  | some .ret => Q .ret fr H ms
  | _ => False
def iwp (rg : Bool) : ICode → Fr → AHeap → List Nat → (Ex → Fr → AHeap → List Nat → Prop) → Prop
  | .skip,fr,H,ms,Q => Q .norm fr H ms
  | .keep ks a,fr,H,ms,Q => iwp rg a (fr.norm ks) H ms Q
  | .ops l,fr,H,ms,Q => iops P l fr H fun fr H => Q .norm fr H ms
  | .draw m ds pl,fr,H,ms,Q => drawP P m ds pl fr H fun fr H => Q .norm fr H ms
  | .seq a b,fr,H,ms,Q => iwp rg a fr H ms (thenQ (fun fr H ms => iwp rg b fr H ms Q) Q)
  | .cond c a b,fr,H,ms,Q => icond (c.ev fr) (iwp rg a fr H ms Q) (iwp rg b fr H ms Q)
  | .block id b,fr,H,ms,Q => iwp rg b fr H ms (blockQ id Q)
  | .scope b,fr,H,ms,Q => iwp rg b fr H ms Q
  | .view a,fr,H,ms,Q => ∃ ρ fr' H',Wk B ms ρ fr H fr' H' ∧ iwp rg a fr' H' ms Q
  | .loop b,fr,H,ms,Q => ∃ (ι : Type) (St : ι → Fr × AHeap) (μ : ι → Nat),(∃ i ρ,Wk B ms ρ fr H (St i).1 (St i).2) ∧ ∀ i,iwp rg b (St i).1 (St i).2 ms (ILoopK B ms St μ i Q)
  | .exit id,fr,H,ms,Q => Q (.exit id) fr H ms
  | .ret,fr,H,ms,Q => Q .ret fr H ms
  | .range f ps as bd,fr,H,ms,Q => rg = true ∧ ∃ g cap,f.ev fr = .fn (.func g) [] cap ∧
      Spec P g (.yld (H.length + 1) :: cap) (H ++ [.defs,.loop .ready none fr n ps.toArray as bd]) fun _ H' =>
        ∃ st pend,H'[H.length + 1]? = some (.loop st pend fr n ps.toArray as bd) ∧ st ≠ .busy ∧ afterR pend fr (H'.set (H.length + 1) .dead) (H.length :: ms) Q
  | .no,_,_,_,_ => False
end
inductive Tr (P : Program) (n : Nat) : Code → ICode → Prop
  | skip : Tr P n .skip .skip
  | keep (ks c a) (h : Tr P n c a) : Tr P n c (.keep ks a)
  | view (c a) (h : Tr P n c a) : Tr P n c (.view a)
  | label (l) : Tr P n (.label l) .skip
  | ops (id ops l) (h : trInss P n ops ops.toList = some l) : Tr P n (.region id ops false) (.ops l)
  | draw (X id ops l m ds pl) (h : trInss P n ops ops.toList = some l) (hp : planDX X ops l = some (m,ds,pl)) : Tr P n (.region id ops true) (.draw m ds pl)
  | seq (a b a' b') (h1 : Tr P n a a') (h2 : Tr P n b b') : Tr P n (.seq a b) (.seq a' b')
  | cond (c a b c' a' b') (h : trO c = some c') (h1 : Tr P n a a') (h2 : Tr P n b b') : Tr P n (.cond c a b) (.cond c' a' b')
  | block (id a a') (h : Tr P n a a') : Tr P n (.block id a) (.block id a')
  | scope (a a') (h : Tr P n a a') : Tr P n (.scope a) (.scope a')
  | loop (a a') (h : Tr P n a a') : Tr P n (.loop a) (.loop a')
  | exit (id) : Tr P n (.exit id) (.exit id)
  | ret : Tr P n .ret .ret
  | range (f ps as bd f') (h : trO f = some f') : Tr P n (.rangeFunc f ps as bd) (.range f' ps.toList as bd)
  | no (c) : Tr P n c .no
def trCodeX (X : List (Nat × Nat)) (P : Program) (n : Nat) : Code → Option ICode
  | .skip => some .skip
  | .label _ => some .skip
  | .region id ops d => match trInss P n ops ops.toList with
    | none => some .no
    | some l => if d then match planDX ((X.lookup id).getD 0) ops l with
        | none => some .no
        | some (m,ds,pl) => some (.draw m ds pl)
      else some (.ops l)
  | .seq a b => do some (.seq (← trCodeX X P n a) (← trCodeX X P n b))
  | .cond c a b => do some (.cond (← trO c) (← trCodeX X P n a) (← trCodeX X P n b))
  | .block id a => do some (.block id (← trCodeX X P n a))
  | .scope a => do some (.scope (← trCodeX X P n a))
  | .loop a => do some (.loop (← trCodeX X P n a))
  | .exit id => some (.exit id)
  | .ret => some .ret
  | .rangeFunc f ps as bd => do some (.range (← trO f) ps.toList as bd)
  | _ => some .no
abbrev trCode := trCodeX []
theorem Tr.of {X : List (Nat × Nat)} {P : Program} {n : Nat} : ∀ (c : Code) (i : ICode),trCodeX X P n c = some i → Tr P n c i
  | .skip,i,h => by simp [trCodeX] at h; subst h; exact .skip
  | .label l,i,h => by simp [trCodeX] at h; subst h; exact .label l
  | .region k os d,i,h => by
    unfold trCodeX at h
    split at h
    · cases h; exact .no _
    · rename_i l hl
      split at h
      · rename_i hd
        subst hd
        split at h
        · cases h; exact .no _
        · rename_i m ds pl hp
          cases h
          exact .draw _ k os l m ds pl hl hp
      · rename_i hd
        have : d = false := by simpa using hd
        subst this
        cases h
        exact .ops k os l hl
  | .seq a b,i,h => by
    obtain ⟨x,hx,h⟩ := some_bind h
    obtain ⟨y,hy,h⟩ := some_bind h
    simp at h; subst h
    exact .seq _ _ _ _ (Tr.of a x hx) (Tr.of b y hy)
  | .cond c a b,i,h => by
    obtain ⟨o,ho,h⟩ := some_bind h
    obtain ⟨x,hx,h⟩ := some_bind h
    obtain ⟨y,hy,h⟩ := some_bind h
    simp at h; subst h
    exact .cond _ _ _ _ _ _ ho (Tr.of a x hx) (Tr.of b y hy)
  | .block id a,i,h => by
    obtain ⟨x,hx,h⟩ := some_bind h
    simp at h; subst h
    exact .block _ _ _ (Tr.of a x hx)
  | .scope a,i,h => by
    obtain ⟨x,hx,h⟩ := some_bind h
    simp at h; subst h
    exact .scope _ _ (Tr.of a x hx)
  | .loop a,i,h => by
    obtain ⟨x,hx,h⟩ := some_bind h
    simp at h; subst h
    exact .loop _ _ (Tr.of a x hx)
  | .exit id,i,h => by simp [trCodeX] at h; subst h; exact .exit id
  | .ret,i,h => by simp [trCodeX] at h; subst h; exact .ret
  | .rangeFunc f ps as bd,i,h => by
    obtain ⟨o,ho,h⟩ := some_bind h
    simp at h; subst h
    exact .range _ _ _ _ _ ho
  | .goto _,i,h => by simp [trCodeX] at h; subst h; exact .no _
  | .refuse _,i,h => by simp [trCodeX] at h; subst h; exact .no _
def strip : ICode → ICode
  | .keep _ a => strip a
  | .view a => strip a
  | .seq a b => .seq (strip a) (strip b)
  | .cond c a b => .cond c (strip a) (strip b)
  | .block id a => .block id (strip a)
  | .scope a => .scope (strip a)
  | .loop a => .loop (strip a)
  | c => c
theorem Tr.strip {P : Program} {n : Nat} : ∀ {i : ICode} {c : Code},Tr P n c (Abs.strip i) → Tr P n c i
  | .keep ks a,c,h => .keep ks c a (Tr.strip (i := a) h)
  | .view a,c,h => .view c a (Tr.strip (i := a) h)
  | .seq a b,c,h => by
    generalize hi : Abs.strip (.seq a b) = i at h
    simp only [Abs.strip] at hi
    cases h <;> cases hi
    · rename_i h1 h2; exact .seq _ _ _ _ (Tr.strip h1) (Tr.strip h2)
  | .cond x a b,c,h => by
    generalize hi : Abs.strip (.cond x a b) = i at h
    simp only [Abs.strip] at hi
    cases h <;> cases hi
    · rename_i h0 h1 h2; exact .cond _ _ _ _ _ _ h0 (Tr.strip h1) (Tr.strip h2)
  | .block id a,c,h => by
    generalize hi : Abs.strip (.block id a) = i at h
    simp only [Abs.strip] at hi
    cases h <;> cases hi
    · rename_i h1; exact .block _ _ _ (Tr.strip h1)
  | .scope a,c,h => by
    generalize hi : Abs.strip (.scope a) = i at h
    simp only [Abs.strip] at hi
    cases h <;> cases hi
    · rename_i h1; exact .scope _ _ (Tr.strip h1)
  | .loop a,c,h => by
    generalize hi : Abs.strip (.loop a) = i at h
    simp only [Abs.strip] at hi
    cases h <;> cases hi
    · rename_i h1; exact .loop _ _ (Tr.strip h1)
  | .skip,c,h => h
  | .ops l,c,h => h
  | .draw m ds pl,c,h => h
  | .exit id,c,h => h
  | .ret,c,h => h
  | .range f ps as bd,c,h => h
  | .no,c,h => h
def PostQ (B n : Nat) (Q : Ex → Fr → AHeap → List Nat → Prop) (φ : Nat → Option Nat) (G : Nat → Prop) (H : AHeap) (w : World) (e : Exit) (a' : Act) (w' : World) : Prop :=
  ∃ ex,exOf e = some ex ∧ ∃ fr' H' ms' φ',Q ex fr' H' ms' ∧ SimS B φ' G fr' H' ms' n a' w' ∧ StepR B φ H w φ' H' w'
def WP (P : Program) (rd : Option Nat) (B n : Nat) (c : Code) (fr : Fr) (H : AHeap) (ms : List Nat) (Q : Ex → Fr → AHeap → List Nat → Prop) : Prop :=
  ∀ φ G w a,SimS B φ G fr H ms n a w → c.wpIn (Fw rd) 0 P (PostQ B n Q φ G H w) a w
theorem PostQ.trans {B n : Nat} {Q : Ex → Fr → AHeap → List Nat → Prop} {φ φ1 : Nat → Option Nat} {G : Nat → Prop} {H H1 : AHeap} {w w1 : World} {e : Exit} {a' : Act} {w' : World} (h : PostQ B n Q φ1 G H1 w1 e a' w') (hs : StepR B φ H w φ1 H1 w1) : PostQ B n Q φ G H w e a' w' := by
  obtain ⟨ex,he,fr',H',ms',φ',hq,h1,h2⟩ := h
  exact ⟨ex,he,fr',H',ms',φ',hq,h1,hs.trans h2⟩
theorem WP.wk {P : Program} {rd : Option Nat} {B n : Nat} {c : Code} {fr fr' : Fr} {H H' : AHeap} {ms : List Nat} {Q : Ex → Fr → AHeap → List Nat → Prop} {ρ : List (Option Nat)} (hw : Wk B ms ρ fr H fr' H') (h : WP P rd B n c fr' H' ms Q) : WP P rd B n c fr H ms Q := by
  intro φ G w a hs
  obtain ⟨h1,h2⟩ := hw.sound hs
  exact wpIn_mono (h _ G w a h1) fun e a' w' hq => hq.trans h2
theorem afterR_sound {P : Program} {rd : Option Nat} {B n : Nat} {pend : Option Code} {fr : Fr} {H : AHeap} {ms : List Nat} {Q : Ex → Fr → AHeap → List Nat → Prop} (h : afterR pend fr H ms Q) {φ φ0 : Nat → Option Nat} {G : Nat → Prop} {H0 : AHeap} {w0 w : World} {a : Act}
    (hs : SimS B φ G fr H ms n a w) (hst : StepR B φ0 H0 w0 φ H w) : match pend with | none => PostQ B n Q φ0 G H0 w0 .normal a w | some c => c.wpIn (Fw rd) 0 P (PostQ B n Q φ0 G H0 w0) a w := by
  unfold afterR at h
  split at h
  · exact ⟨.norm,rfl,fr,H,ms,φ,h,hs,hst⟩
  · exact wpIn_exit ⟨.exit _,rfl,fr,H,ms,φ,h,hs,hst⟩
  · exact wpIn_ret ⟨.ret,rfl,fr,H,ms,φ,h,hs,hst⟩
  · exact h.elim
theorem stepR_scope' {P : Program} {b : Frame} {a : Act} {k : List Item} {cs : List Frame} {w : World} {c : Code} : step P (lone (b.atR a (.code (.scope c) :: k)) cs w) = .next (lone (b.atR a (.code c :: .inScope c :: k)) cs w) :=
  step_lone_go (by simp [stepG,stepG.exec,Frame.atR])
theorem stepR_inScope' {P : Program} {b : Frame} {a : Act} {k : List Item} {cs : List Frame} {w : World} {c : Code} : step P (lone (b.atR a (.inScope c :: k)) cs w) = .next (lone (b.atR a k) cs w) :=
  step_lone_go (by simp [stepG,stepG.exec,Frame.atR])
def noGoto (Q : Exit → Act → World → Prop) : Exit → Act → World → Prop
  | .goto _,_,_ => False
  | e,a,w => Q e a w
theorem wpIn_scope {P : Program} {F : Fence} {n : Nat} {c : Code} {Q : Exit → Act → World → Prop} {a : Act} {w : World} (h : c.wpIn F n P (noGoto Q) a w) : (Code.scope c).wpIn F n P Q a w := by
  intro b k cs hro hb hr
  have h0 : (lone (b.atR a (.code (.scope c) :: k)) cs w).fenced P F := fenced_calm hb hr rfl
  obtain ⟨e,a₁,w₁,hq,harr⟩ := h b (.inScope c :: k) cs hro hb hr
  cases e with
  | normal => exact ⟨.normal,a₁,w₁,hq,.head h0 stepR_scope' (StepsIn.trans harr (.one (fenced_calm hb hr rfl) stepR_inScope'))⟩
  | exit id' =>
    have hx : exitTo id' (.inScope c :: k) = exitTo id' k := by simp [exitTo]
    exact ⟨.exit id',a₁,w₁,hq,fun k' hk => .head h0 stepR_scope' (harr.1 k' (by rw [hx]; exact hk)),
      fun hr' hk => let ⟨k₁,h1,h2⟩ := harr.2 hr' (by rw [hx]; exact hk); ⟨k₁,h1,.head h0 stepR_scope' h2⟩⟩
  | goto l => exact hq.elim
  | ret => exact ⟨_,a₁,w₁,hq,.of_steps (.one h0 stepR_scope') harr⟩
  | panic ch => exact ⟨_,a₁,w₁,hq,.of_steps (.one h0 stepR_scope') harr⟩
  | outgrown => exact ⟨_,a₁,w₁,hq,.of_steps (.one h0 stepR_scope') harr⟩
theorem iwp_sound {P : Program} (hm : P.follows .mixedOrders = true) {rd : Option Nat} {rg : Bool} (hrg : rg = true → rd = none) {B n : Nat} {c : Code} {i : ICode} (ht : Tr P n c i) :
    ∀ {fr : Fr} {H : AHeap} {ms : List Nat} {Q : Ex → Fr → AHeap → List Nat → Prop},iwp P B n rg i fr H ms Q → WP P rd B n c fr H ms Q := by
  induction ht with
  | skip => intro fr H ms Q h φ G w a hs; exact wpIn_skip ⟨.norm,rfl,fr,H,ms,φ,h,hs,.refl _ _ _ _⟩
  | keep ks c a _ ih => intro fr H ms Q h φ G w a hs; exact ih h φ G w a ⟨hs.sim,hs.fr.norm ks,hs.sz,hs.df,hs.md,hs.bl⟩
  | view c a _ ih =>
    intro fr H ms Q h
    obtain ⟨ρ,fr',H',hw,h⟩ := h
    exact WP.wk hw (ih h)
  | no c => intro fr H ms Q h φ G w a hs; exact h.elim
  | label l => intro fr H ms Q h φ G w a hs; exact wpIn_label ⟨.norm,rfl,fr,H,ms,φ,h,hs,.refl _ _ _ _⟩
  | exit id => intro fr H ms Q h φ G w a hs; exact wpIn_exit ⟨.exit id,rfl,fr,H,ms,φ,h,hs,.refl _ _ _ _⟩
  | ret => intro fr H ms Q h φ G w a hs; exact wpIn_ret ⟨.ret,rfl,fr,H,ms,φ,h,hs,.refl _ _ _ _⟩
  | ops id ops l hl =>
    intro fr H ms Q h φ G w a hs
    refine wpIn_region ?_
    have := iops_sound (P := P) (rd := rd) (Q := PostQ B n Q φ G H w) ops.toList l 0 (by simp) hl hs h (fun a' w' ⟨fr',H',φ',hk,hs',hst⟩ => ⟨.norm,rfl,fr',H',ms,φ',hk,hs',hst⟩)
    rwa [List.range_eq_range',← Array.length_toList]
  | draw X id ops l m ds pl hl hp =>
    intro fr H ms Q h φ G w a hs
    exact drawP_sound hm hl hp hs h fun a' w' ⟨fr',H',φ',hk,hs',hst⟩ => ⟨.norm,rfl,fr',H',ms,φ',hk,hs',hst⟩
  | seq x y x' y' _ _ ih1 ih2 =>
    intro fr H ms Q h φ G w a hs
    refine wpIn_seq (wpIn_mono (ih1 h φ G w a hs) fun e a' w' ⟨ex,he,fr',H',ms',φ',hq,hs',hst⟩ => ?_)
    cases e with
    | normal =>
      cases he
      exact wpIn_mono (ih2 hq φ' G w' a' hs') fun e a'' w'' hq => hq.trans hst
    | exit id => cases he; exact ⟨_,rfl,fr',H',ms',φ',hq,hs',hst⟩
    | ret => cases he; exact ⟨_,rfl,fr',H',ms',φ',hq,hs',hst⟩
    | goto l => cases he
    | panic c => cases he
    | outgrown => cases he
  | cond c x y c' x' y' hc _ _ ih1 ih2 =>
    intro fr H ms Q h φ G w a hs
    have hρ : ORep (env φ G H w) fr a.eval := .of_frame hs.fr
    unfold iwp icond at h
    split at h
    case h_2 => exact h.elim
    rename_i t ht
    have hv := hρ c c' hc
    rw [ht] at hv
    exact wpIn_cond_split hv.inv_val (fun h1 => ih1 (h.1 h1) φ G w a hs) (fun h1 => ih2 (h.2 h1) φ G w a hs)
  | scope x x' _ ih =>
    intro fr H ms Q h φ G w a hs
    refine wpIn_scope (wpIn_mono (ih h φ G w a hs) fun e a' w' ⟨ex,he,hq⟩ => ?_)
    cases e with
    | goto l => cases he
    | _ => exact ⟨ex,he,hq⟩
  | block id x x' _ ih =>
    intro fr H ms Q h φ G w a hs
    refine wpIn_block (wpIn_mono (ih h φ G w a hs) fun e a' w' ⟨ex,he,fr',H',ms',φ',hq,hs',hst⟩ => ?_)
    cases e with
    | normal => cases he; exact ⟨_,rfl,fr',H',ms',φ',hq,hs',hst⟩
    | exit i =>
      cases he
      simp only [blockQ] at hq
      simp only [Exit.inBlock]
      split at hq
      · rename_i hi; rw [if_pos hi]; exact ⟨_,rfl,fr',H',ms',φ',hq,hs',hst⟩
      · rename_i hi; rw [if_neg hi]; exact ⟨_,rfl,fr',H',ms',φ',hq,hs',hst⟩
    | ret => cases he; exact ⟨_,rfl,fr',H',ms',φ',hq,hs',hst⟩
    | goto l => cases he
    | panic c => cases he
    | outgrown => cases he
  | loop x x' _ ih =>
    intro fr H ms Q h φ G w a hs
    unfold iwp at h
    obtain ⟨ι,St,μ,⟨i0,ρ0,hw0⟩,hround⟩ := h
    obtain ⟨hs0,hst0⟩ := hw0.sound hs
    refine wpIn_loop_ghost (fun m a w1 => ∃ i φ1,μ i = m ∧ SimS B φ1 G (St i).1 (St i).2 ms n a w1 ∧ StepR B φ H w φ1 (St i).2 w1) (μ i0) ⟨i0,_,rfl,hs0,hst0⟩ ?_
    rintro m a1 w1 ⟨i,φ1,rfl,hs1,hst1⟩
    refine wpIn_mono (ih (hround i) φ1 G w1 a1 hs1) fun e a' w' ⟨ex,he,fr',H',ms',φ',hq,hs',hst⟩ => ?_
    cases e with
    | normal =>
      cases he
      obtain ⟨rfl,j,ρ,hlt,hwk⟩ := hq
      obtain ⟨h1,h2⟩ := hwk.sound hs'
      exact ⟨μ j,hlt,j,_,rfl,h1,(hst1.trans hst).trans h2⟩
    | exit id => cases he; exact ⟨_,rfl,fr',H',ms',φ',hq,hs',hst1.trans hst⟩
    | ret => cases he; exact ⟨_,rfl,fr',H',ms',φ',hq,hs',hst1.trans hst⟩
    | goto l => cases he
    | panic c => cases he
    | outgrown => cases he
  | range f ps as bd f' hf =>
    intro fr H ms Q h φ G w a hs
    obtain ⟨hrg',g,cap,hfv,hspec⟩ := h
    have hro := hrg hrg'
    subst hro
    have hρ : ORep (env φ G H w) fr a.eval := .of_frame hs.fr
    have hf1 := hρ f f' hf
    rw [hfv] at hf1
    obtain ⟨fs,cs,hfe,hfs,hcs,_,hcr⟩ := hf1.inv_fn
    have hfs0 : fs = #[] := by simpa using hfs
    subst hfs0
    refine wpIn_rangeFunc ?_
    intro fn hfn
    -- the block for deferred calls,and the record
    have hn1 := nx_alloc (B := B) hs.sim (NewAt.push H .defs) hs.bl (o := .deferred (some [])) (fun E _ hw => ⟨_,rfl,by rw [hw]; exact World.alloc_heap_new w _⟩)
    have hn2 := nx_alloc (B := B) (b := .loop .ready none fr n ps as bd) hn1.sim (NewAt.push (H ++ [.defs]) (.loop .ready none fr n ps as bd)) (by simp; have := hs.bl; omega)
      (o := .loop { state := .ready,pending := none,fn,tmps := a.tmps,params := ps,assign := as,body := bd,defers := w.heap.size })
      (fun E hle hw => ⟨_,fn,a.tmps,w.heap.size,rfl,by rw [hw]; exact World.alloc_heap_new _ _,hs.sz,(hs.fr.mono hn1.le).mono hle⟩)
    have hn := hn1.trans hn2
    have hLlen : (H ++ [Blk.defs]).length = H.length + 1 := by simp
    rw [hLlen] at hn hn2
    have hH1 : H ++ [Blk.defs] ++ [.loop .ready none fr n ps as bd] = H ++ [.defs,.loop .ready none fr n ps as bd] := by simp
    rw [hH1] at hn hn2
    -- the contract
    have hD : up (up φ H.length (some w.heap.size)) (H.length + 1) (some (w.alloc (.deferred (some []))).heap.size) (H.length + 1) = some (w.heap.size + 1) := by simp [up]
    have hD0 : up (up φ H.length (some w.heap.size)) (H.length + 1) (some (w.alloc (.deferred (some []))).heap.size) H.length = some w.heap.size := by simp [up]
    obtain ⟨W,hW⟩ : ∃ W,W = (w.alloc (.deferred (some []))).alloc (.loop { state := .ready,pending := none,fn,tmps := a.tmps,params := ps,assign := as,body := bd,defers := w.heap.size }) := ⟨_,rfl⟩
    have henter : (Instr.enterLoop fn a.tmps ps as bd none).run P w = .ok (w.heap.size + 1,[{ target := .collected w.heap.size,args := #[] }]) W := by rw [hW]; exact run_enterLoop_outer _ _ _ _ _
    rw [← hW] at hn hn2
    generalize up (up φ H.length (some w.heap.size)) (H.length + 1) (some (w.alloc (.deferred (some []))).heap.size) = φ1 at hn hn2 hD hD0
    have hargs : CRep (env φ1 G (H ++ [.defs,.loop .ready none fr n ps as bd]) W) (.yld (H.length + 1) :: cap) (#[.func (.yield (w.heap.size + 1)) #[] #[]] ++ cs) := by
      refine CRep.append (a := [.yld (H.length + 1)]) ⟨rfl,fun j u hu => ?_⟩ ⟨hcs,fun j u hu => (hcr j u hu).mono hn.le⟩
      cases j with
      | zero => simp at hu; subst hu; exact .yld _ _ ⟨.loop .ready none fr n ps as bd,by simp,by simp⟩ hD
      | succ j => simp at hu
    have hsp : ps.toList.toArray = ps := by simp
    rw [hsp] at hspec
    have hcall := hspec.2 φ1 G W _ hn.sim hargs
    refine ⟨w.heap.size + 1,[{ target := .collected w.heap.size,args := #[] }],W,{ target := .fn (.func g) cs,args := #[.func (.yield (w.heap.size + 1)) #[] #[]] },W,g,#[.func (.yield (w.heap.size + 1)) #[] #[]] ++ cs,W,henter,?_,fun _ _ => trivial,?_,fun h => by simp [Fw] at h,?_⟩
    · simp only [resolve,hfe]
      simp [go_sem]
    · simp only [invoke]; exact hspec.1 _ _
    · refine (calls_Fw (rd := none) hcall).mono fun e w3 ⟨rv,he,v,H3,φ3,⟨st,pend,hL,hst,haft⟩,hsim3,hstep3,_⟩ => ?_
      subst he
      have hfix := hstep3.fix (H.length + 1) (by simp)
      have hφL : φ3 (H.length + 1) = some (w.heap.size + 1) := hfix.trans hD
      have hblk := hsim3.blk _ _ hL
      rw [hφL] at hblk
      obtain ⟨r',fn',tmps',D',hr',hobj,hsz',hfr'⟩ := hblk
      cases hr'
      have hend := run_endLoop (P := P) hobj (by simpa using hst)
      have hn4 := nx_obj (B := B) (o' := .loop { state := .exhausted,pending := pend,fn := fn',tmps := tmps',params := ps,assign := as,body := bd,defers := D' }) hsim3 hL rfl hφL hobj (fun _ _ _ h => by cases h) (b' := .dead) (by simp) (fun _ _ _ => trivial)
      refine ⟨pend,_,hend,?_⟩
      have hst13 : StepR B φ H w φ3 H3 w3 := hn.st.trans (hstep3.mono (by simp; have := hs.bl; omega) (Nat.le_refl _))
      have hst14 := hst13.trans hn4.st
      have hle14 : (env φ G H w).Le (env φ3 G (H3.set (H.length + 1) .dead) (w3.putObj (w.heap.size + 1) (.loop { state := .exhausted,pending := pend,fn := fn',tmps := tmps',params := ps,assign := as,body := bd,defers := D' }))) :=
        (hn.le.trans hstep3.le hn.st.size).trans hn4.le (by have := hst13.size; exact this)
      have hs4 : SimS B φ3 G fr (H3.set (H.length + 1) .dead) (H.length :: ms) n { a with defers := [{ target := .collected w.heap.size,args := #[] }] ++ a.defers } (w3.putObj (w.heap.size + 1) (.loop { state := .exhausted,pending := pend,fn := fn',tmps := tmps',params := ps,assign := as,body := bd,defers := D' })) := by
        have hmk : φ3 H.length = some w.heap.size := (hstep3.fix H.length (by simp)).trans hD0
        refine ⟨hn4.sim,hs.fr.mono hle14,hs.sz,?_,fun m hm => ?_,hst14.len hs.bl⟩
        · show _ :: a.defers = _
          rw [hs.df]
          simp only [marksV,List.map_cons,hmk,Option.getD_some]
          congr 1
          exact (marksV_congr fun m hm => hle14.fix m (hs.md m hm)).symm
        · rcases List.mem_cons.1 hm with rfl | hm
          · exact hn4.le.dom _ (hstep3.dom _ (by simp) ⟨.defs,by simp,by simp⟩)
          · exact hle14.dom m (hs.md m hm)
      have := afterR_sound (P := P) (rd := none) haft hs4 hst14
      cases pend with
      | none => exact this
      | some c => exact this
end Go.Abs
