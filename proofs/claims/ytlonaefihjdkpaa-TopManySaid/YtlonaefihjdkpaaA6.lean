/- Each operation of the loaded program,run: by its cleaned form. -/
import Derived.Test.YtlonaefihjdkpaaAQ
namespace Go.Abs
open AVal
def OpRun (P : Program) (ρ : Operand → Value) (o : Oper) (w : World) (post : Value → World → Prop) : Prop :=
  match (execOp ρ o).run P w with
  | .ok (.value v) w' => post v w'
  | .ok .skip w' => post undef w'
  | _ => False
theorem OpRun.value {P : Program} {ρ : Operand → Value} {o : Oper} {w w' : World} {v : Value} {post : Value → World → Prop} (h : (execOp ρ o).run P w = .ok (.value v) w') (hp : post v w') : OpRun P ρ o w post := by
  unfold OpRun; rw [h]; exact hp
theorem OpRun.skip {P : Program} {ρ : Operand → Value} {o : Oper} {w w' : World} {post : Value → World → Prop} (h : (execOp ρ o).run P w = .ok .skip w') (hp : post undef w') : OpRun P ρ o w post := by
  unfold OpRun; rw [h]; exact hp
section
variable {P : Program} {E : Env} {ρ : Operand → Value} {fr : Fr}
def ORep (E : Env) (fr : Fr) (ρ : Operand → Value) : Prop := ∀ x ix,trO x = some ix → Rep E (ix.ev fr) (ρ x)
theorem ofValue_rep (v : Value) : Rep E (ofValue v) v := by
  cases v <;> first | exact .val _ | skip
  rename_i cs
  exact .agg _ _ (by simp) (fun j u hu => by
    rw [List.getElem?_map] at hu
    rw [Array.getD_eq_getD_getElem?,← Array.getElem?_toList]
    cases h : cs.toList[j]? with
    | none => simp [h] at hu
    | some x => simp [h] at hu; subst hu; exact .val _)
theorem ORep.of_frame {a : Act} (h : FrRep E fr a.tmps) : ORep E fr a.eval := by
  intro x ix hx
  cases x with
  | tmp t => simp [trO] at hx; subst hx; exact h t
  | const v => simp [trO] at hx; subst hx; exact ofValue_rep v
  | global g => simp [trO] at hx
  | func f => simp [trO] at hx; subst hx; exact .fn _ _ _ _ _ rfl rfl (fun j u hu => by simp at hu) (fun j u hu => by simp at hu)
theorem trOs_rep (h : ORep E fr ρ) : ∀ (l : List Operand) (is : List IOpd),trOs l = some is → CRep E (is.map (·.ev fr)) (l.toArray.map ρ)
  | [],is,hi => by simp [trOs] at hi; subst hi; exact ⟨by simp,fun j u hu => by simp at hu⟩
  | x :: r,is,hi => by
    simp only [trOs,Option.bind_eq_bind,Option.bind_eq_some_iff] at hi
    obtain ⟨ix,hx,is',hs,hi⟩ := hi
    simp at hi
    subst hi
    have ih := trOs_rep h r is' hs
    refine ⟨by have := ih.1; simp at this ⊢; omega,fun j u hu => ?_⟩
    cases j with
    | zero => simp at hu; subst hu; simpa using h x ix hx
    | succ j => have := ih.2 j u (by simpa using hu); simpa using this
theorem trOpt_rep (h : ORep E fr ρ) {x : Option Operand} {ix : Option IOpd} (hx : trOpt x = some ix) :
    (ix.map (·.ev fr) = none → x.map ρ = none) ∧ (∀ v,ix.map (·.ev fr) = some v → ∃ rv,x.map ρ = some rv ∧ Rep E v rv) := by
  cases x with
  | none => simp [trOpt] at hx; subst hx; simp
  | some x =>
    simp only [trOpt,Option.map_eq_some_iff] at hx
    obtain ⟨i,hi,rfl⟩ := hx
    refine ⟨by simp,fun v hv => ?_⟩
    simp at hv; subst hv
    exact ⟨ρ x,rfl,h x i hi⟩
theorem CRep.list {is : List AVal} {vs : Array Value} (h : CRep E is vs) : ∃ l : List Value,vs = l.toArray ∧ l.length = is.length := ⟨vs.toList,by simp,by simpa using h.1⟩
theorem nilC_rep (hρ : ORep E fr ρ) {y : Operand} (hy : isNilC y = true) : ρ y = .slice none 0 0 := by
  unfold isNilC at hy
  split at hy
  · exact (hρ (.const (.slice none 0 0)) (.k (.val (.slice none 0 0))) rfl).inv_val
  · cases hy
theorem nilP_rep (hρ : ORep E fr ρ) {y : Operand} (hy : isNilP y = true) : ρ y = .pointer none := by
  unfold isNilP at hy
  split at hy
  · exact (hρ (.const (.pointer none)) (.k (.val (.pointer none))) rfl).inv_val
  · cases hy
theorem opq_run {φ : Nat → Option Nat} {G : Nat → Prop} {H : AHeap} {w : World} (hs : SimH φ G H w) (hρ : ORep (env φ G H w) fr ρ) {o : Oper} {iop : IOp} (ht : trOp P o.op = some iop) {p : Prop} {v : AVal} (h : opq iop fr H = some (p,v)) (hp : p) :
    OpRun P ρ o w fun rv w' => w' = w ∧ Rep (env φ G H w) v rv := by
  obtain ⟨dst,op,ty,pos,after,guard⟩ := o
  simp only at ht
  have fin : ∀ {s : Sem Value},execOp ρ ⟨dst,op,ty,pos,after,guard⟩ = (do pure (.value (← s)) : Sem Next) → (∃ rv,s.run P w = .ok rv w ∧ Rep (env φ G H w) v rv) → OpRun P ρ ⟨dst,op,ty,pos,after,guard⟩ w fun rv w' => w' = w ∧ Rep (env φ G H w) v rv := by
    intro s he ⟨rv,hr,hv⟩
    refine .value (v := rv) (w' := w) ?_ ⟨rfl,hv⟩
    rw [he]; simp [hr]
  cases op
  case move x =>
    simp only [trOp,Option.bind_eq_bind,Option.bind_eq_some_iff] at ht; obtain ⟨ix,hx,ht⟩ := ht; simp at ht; subst ht
    simp only [opq,Option.some.injEq,Prod.mk.injEq] at h; obtain ⟨_,rfl⟩ := h
    exact .value (w' := w) rfl ⟨rfl,hρ _ _ hx⟩
  case assign x =>
    simp only [trOp,Option.bind_eq_bind,Option.bind_eq_some_iff] at ht; obtain ⟨ix,hx,ht⟩ := ht; simp at ht; subst ht
    simp only [opq,Option.some.injEq,Prod.mk.injEq] at h; obtain ⟨_,rfl⟩ := h
    exact .value (w' := w) rfl ⟨rfl,hρ _ _ hx⟩
  case pick c a b =>
    simp only [trOp,Option.bind_eq_bind,Option.bind_eq_some_iff] at ht; obtain ⟨i1,h1,i2,h2,i3,h3,ht⟩ := ht; simp at ht; subst ht
    obtain ⟨rv,hr0,hv⟩ := pick_sound (P := P) (E := env φ G H w) h (hρ _ _ h1) (hρ _ _ h2) (hρ _ _ h3)
    have hr : (do pure (if ← asBool (ρ c) then ρ a else ρ b) : Sem Value).run P w = .ok rv w := hr0
    refine .value (v := rv) (w' := w) ?_ ⟨rfl,hv⟩
    simp only [execOp]
    simp at hr ⊢
    cases hc : (asBool (ρ c)).run P w with
    | halt x w' => rw [hc] at hr; simp at hr
    | ok t w' => rw [hc] at hr; simp at hr ⊢; exact hr
  case binOp op t x y yt =>
    simp only [trOp,Option.bind_eq_bind,Option.bind_eq_some_iff] at ht
    obtain ⟨d,hd,ht⟩ := ht
    split at ht
    · simp only [Option.bind_eq_some_iff] at ht; obtain ⟨i1,h1,i2,h2,ht⟩ := ht; simp at ht; subst ht
      exact fin rfl (eqb_sound (P := P) (E := env φ G H w) (neg := false) hd h (hρ _ _ h1) (hρ _ _ h2))
    · simp only [Option.bind_eq_some_iff] at ht; obtain ⟨i1,h1,i2,h2,ht⟩ := ht; simp at ht; subst ht
      exact fin rfl (eqb_sound (P := P) (E := env φ G H w) (neg := true) hd h (hρ _ _ h1) (hρ _ _ h2))
    · split at ht
      case isFalse => cases ht
      rename_i hn
      simp only [Option.bind_eq_some_iff] at ht; obtain ⟨i1,h1,ht⟩ := ht; simp at ht; subst ht
      refine fin rfl (eqnil_sound (P := P) (E := env φ G H w) (neg := false) hd (nilC_rep hρ hn) h hp (hρ _ _ h1))
    · split at ht
      case isFalse => cases ht
      rename_i hn
      simp only [Option.bind_eq_some_iff] at ht; obtain ⟨i1,h1,ht⟩ := ht; simp at ht; subst ht
      refine fin rfl (eqnil_sound (P := P) (E := env φ G H w) (neg := true) hd (nilC_rep hρ hn) h hp (hρ _ _ h1))
    · split at ht
      case isFalse => cases ht
      rename_i hn
      simp only [Option.bind_eq_some_iff] at ht; obtain ⟨i1,h1,i2,h2,ht⟩ := ht; simp at ht; subst ht
      exact fin rfl (eqv_sound (P := P) (E := env φ G H w) (neg := false) hd hn h hp (hρ _ _ h1) (hρ _ _ h2))
    · split at ht
      case isFalse => cases ht
      rename_i hn
      simp only [Option.bind_eq_some_iff] at ht; obtain ⟨i1,h1,i2,h2,ht⟩ := ht; simp at ht; subst ht
      exact fin rfl (eqv_sound (P := P) (E := env φ G H w) (neg := true) hd hn h hp (hρ _ _ h1) (hρ _ _ h2))
    · split at ht
      case isFalse => cases ht
      rename_i hn
      simp only [Option.bind_eq_some_iff] at ht; obtain ⟨i1,h1,i2,h2,ht⟩ := ht; simp at ht; subst ht
      exact fin rfl (eqw_sound (P := P) (E := env φ G H w) (neg := false) hd hn h hp (hρ _ _ h1) (hρ _ _ h2))
    · split at ht
      case isFalse => cases ht
      rename_i hn
      simp only [Option.bind_eq_some_iff] at ht; obtain ⟨i1,h1,i2,h2,ht⟩ := ht; simp at ht; subst ht
      exact fin rfl (eqw_sound (P := P) (E := env φ G H w) (neg := true) hd hn h hp (hρ _ _ h1) (hρ _ _ h2))
    · simp only [Option.bind_eq_some_iff] at ht; obtain ⟨i1,h1,i2,h2,ht⟩ := ht; simp at ht; subst ht
      exact fin rfl (eqs_sound (P := P) (E := env φ G H w) (neg := false) hd h (hρ _ _ h1) (hρ _ _ h2))
    · simp only [Option.bind_eq_some_iff] at ht; obtain ⟨i1,h1,i2,h2,ht⟩ := ht; simp at ht; subst ht
      exact fin rfl (eqs_sound (P := P) (E := env φ G H w) (neg := true) hd h (hρ _ _ h1) (hρ _ _ h2))
    · split at ht
      case isFalse => cases ht
      rename_i hn
      simp only [Option.bind_eq_some_iff] at ht; obtain ⟨i1,h1,ht⟩ := ht; simp at ht; subst ht
      refine fin rfl (eqp_sound (P := P) (E := env φ G H w) (neg := false) hd (nilP_rep hρ hn) h (hρ _ _ h1))
    · split at ht
      case isFalse => cases ht
      rename_i hn
      simp only [Option.bind_eq_some_iff] at ht; obtain ⟨i1,h1,ht⟩ := ht; simp at ht; subst ht
      refine fin rfl (eqp_sound (P := P) (E := env φ G H w) (neg := true) hd (nilP_rep hρ hn) h (hρ _ _ h1))
    · simp only [Option.bind_eq_some_iff] at ht; obtain ⟨i1,h1,i2,h2,ht⟩ := ht; simp at ht; subst ht
      exact fin rfl (bin_sound (P := P) (E := env φ G H w) h hp (hρ _ _ h1) (hρ _ _ h2))
    · cases ht
  case unOp op t x =>
    simp only [trOp,Option.bind_eq_bind,Option.bind_eq_some_iff] at ht; obtain ⟨ix,hx,ht⟩ := ht; simp at ht; subst ht
    exact fin rfl (un_sound (P := P) (E := env φ G H w) h (hρ _ _ hx))
  case convert s d x =>
    simp only [trOp,Option.bind_eq_bind,Option.bind_eq_some_iff] at ht; obtain ⟨ds,hds,dd,hdd,ht⟩ := ht
    split at ht
    case h_2 => cases ht
    simp only [Option.bind_eq_some_iff] at ht; obtain ⟨ix,hx,ht⟩ := ht; simp at ht; subst ht
    exact fin rfl (conv_sound (P := P) (E := env φ G H w) hds hdd h (hρ _ _ hx))
  case makeFunc f a b =>
    simp only [trOp,Option.bind_eq_bind,Option.bind_eq_some_iff] at ht; obtain ⟨ia,ha,ib,hb,ht⟩ := ht; simp at ht; subst ht
    simp only [opq,Option.some.injEq,Prod.mk.injEq] at h; obtain ⟨_,rfl⟩ := h
    have h1 := trOs_rep hρ _ _ ha
    have h2 := trOs_rep hρ _ _ hb
    exact .value (w' := w) rfl ⟨rfl,.fn _ _ _ _ _ (by simpa using h1.1) (by simpa using h2.1) (by simpa using h1.2) (by simpa using h2.2)⟩
  case load t a =>
    simp only [trOp,Option.bind_eq_bind,Option.bind_eq_some_iff] at ht; obtain ⟨ag,hag,k,hk,ix,hx,ht⟩ := ht; simp at ht; subst ht
    exact fin rfl (load_sound hs hag hk h hp (hρ _ _ hx))
  case nilCheck x =>
    simp only [trOp,Option.bind_eq_bind,Option.bind_eq_some_iff] at ht; obtain ⟨ix,hx,ht⟩ := ht; simp at ht; subst ht
    obtain ⟨rv,hr,hv⟩ := nilck_sound (P := P) (E := env φ G H w) h (hρ _ _ hx) (ρ := ρ) (x := x) rfl (o := ⟨dst,.nilCheck x,ty,pos,after,guard⟩) rfl
    exact .value hr ⟨rfl,hv⟩
  case slice t x lo hi mx =>
    simp only [trOp,Option.bind_eq_bind,Option.bind_eq_some_iff] at ht; obtain ⟨d,hd,ht⟩ := ht
    split at ht
    · simp only [Option.bind_eq_some_iff] at ht; obtain ⟨k,hk,i1,h1,i2,h2,i3,h3,i4,h4,ht⟩ := ht; simp at ht; subst ht
      obtain ⟨n2,s2⟩ := trOpt_rep hρ h2
      obtain ⟨n3,s3⟩ := trOpt_rep hρ h3
      obtain ⟨n4,s4⟩ := trOpt_rep hρ h4
      exact fin rfl (slS_sound (P := P) (E := env φ G H w) hd hk h hp (hρ _ _ h1) n2 s2 n3 s3 n4 s4)
    · split at ht
      case isTrue => cases ht
      rename_i hmx
      simp only [Option.bind_eq_some_iff] at ht; obtain ⟨k,hk,i1,h1,i2,h2,i3,h3,ht⟩ := ht; simp at ht; subst ht
      obtain ⟨n2,s2⟩ := trOpt_rep hρ h2
      obtain ⟨n3,s3⟩ := trOpt_rep hρ h3
      have hm : mx.map ρ = none := by simp at hmx; simp [hmx]
      refine fin (s := Instr.sliceAt t (ρ x) (lo.map ρ) (hi.map ρ) none) (by simp only [execOp,hm]) (slP_sound hd hk hs h hp (hρ _ _ h1) n2 s2 n3 s3)
    · split at ht
      case isTrue => cases ht
      rename_i hmx
      simp only [Option.bind_eq_some_iff] at ht; obtain ⟨i1,h1,i2,h2,i3,h3,ht⟩ := ht; simp at ht; subst ht
      obtain ⟨n2,s2⟩ := trOpt_rep hρ h2
      obtain ⟨n3,s3⟩ := trOpt_rep hρ h3
      have hm : mx.map ρ = none := by simp at hmx; simp [hmx]
      refine fin (s := Instr.sliceAt t (ρ x) (lo.map ρ) (hi.map ρ) none) (by simp only [execOp,hm]) (slT_sound (P := P) (E := env φ G H w) hd h hp (hρ _ _ h1) n2 s2 n3 s3)
    · cases ht
  case fieldAddr s x f =>
    simp only [trOp,Option.bind_eq_bind,Option.bind_eq_some_iff] at ht; obtain ⟨d,hd,ht⟩ := ht
    split at ht
    case h_2 => cases ht
    simp only [Option.bind_eq_some_iff] at ht; obtain ⟨fd,hfd,z,hz,ht⟩ := ht
    split at ht
    case isTrue => cases ht
    rename_i hz0
    simp only [Option.bind_eq_some_iff] at ht; obtain ⟨i1,h1,ht⟩ := ht; simp at ht; subst ht
    exact fin rfl (fldA_sound (P := P) (E := env φ G H w) hd hfd hz hz0 h hp (hρ _ _ h1))
  case field s x f =>
    simp only [trOp,Option.bind_eq_bind,Option.bind_eq_some_iff] at ht; obtain ⟨d,hd,ht⟩ := ht
    split at ht
    case h_2 => cases ht
    simp only [Option.bind_eq_some_iff] at ht; obtain ⟨fd,hfd,ag,hag,k,hk,i1,h1,ht⟩ := ht; simp at ht; subst ht
    exact fin rfl (fld_sound (P := P) (E := env φ G H w) hd hfd hag hk h hp (hρ _ _ h1))
  case indexAddr t x i =>
    simp only [trOp,Option.bind_eq_bind,Option.bind_eq_some_iff] at ht; obtain ⟨d,hd,ht⟩ := ht
    split at ht
    · simp only [Option.bind_eq_some_iff] at ht; obtain ⟨k,hk,i1,h1,i2,h2,ht⟩ := ht; simp at ht; subst ht
      exact fin rfl (ixS_sound (P := P) (E := env φ G H w) hd hk h hp (hρ _ _ h1) (hρ _ _ h2))
    · split at ht
      case isTrue => cases ht
      simp only [Option.bind_eq_some_iff] at ht; obtain ⟨k,hk,i1,h1,i2,h2,ht⟩ := ht; simp at ht; subst ht
      exact fin rfl (ixP_sound (P := P) (E := env φ G H w) hd hk h hp (hρ _ _ h1) (hρ _ _ h2))
    · cases ht
  case index t x i =>
    simp only [trOp,Option.bind_eq_bind,Option.bind_eq_some_iff] at ht; obtain ⟨d,hd,ht⟩ := ht
    split at ht
    · simp only [Option.bind_eq_some_iff] at ht; obtain ⟨ag,hag,k,hk,i1,h1,i2,h2,ht⟩ := ht; simp at ht; subst ht
      exact fin rfl (ixV_sound (P := P) (E := env φ G H w) hd hag hk h hp (hρ _ _ h1) (hρ _ _ h2))
    · simp only [Option.bind_eq_some_iff] at ht; obtain ⟨i1,h1,i2,h2,ht⟩ := ht; simp at ht; subst ht
      exact fin rfl (ixStr_sound (P := P) (E := env φ G H w) hd h hp (hρ _ _ h1) (hρ _ _ h2))
    · cases ht
  case extract x i =>
    simp only [trOp,Option.bind_eq_bind,Option.bind_eq_some_iff] at ht; obtain ⟨ix,hx,ht⟩ := ht; simp at ht; subst ht
    exact fin rfl (ext_sound (P := P) (E := env φ G H w) h hp (hρ _ _ hx))
  case build t parts =>
    simp only [trOp,Option.bind_eq_bind,Option.bind_eq_some_iff] at ht; obtain ⟨d,hd,ht⟩ := ht
    split at ht
    · simp only [Option.bind_eq_some_iff] at ht; obtain ⟨pl,hpl,z,hz,ps,hps,ht⟩ := ht; simp at ht; subst ht
      simp only [opq,buildA,Option.some.injEq,Prod.mk.injEq] at h; obtain ⟨rfl,rfl⟩ := h
      have hr := trParts_rep (E := env φ G H w) (fr := fr) hρ _ _ hps
      exact fin rfl (build_struct_sound (P := P) (E := env φ G H w) hd hz hpl (rs := parts.map fun (i,x) => (i,ρ x)) (by simpa using hr) hp)
    · simp only [Option.bind_eq_some_iff] at ht; obtain ⟨k,hk,z,hz,ps,hps,ht⟩ := ht; simp at ht; subst ht
      simp only [opq,buildA,Option.some.injEq,Prod.mk.injEq] at h; obtain ⟨rfl,rfl⟩ := h
      have hr := trParts_rep (E := env φ G H w) (fr := fr) hρ _ _ hps
      exact fin rfl (build_array_sound (P := P) (E := env φ G H w) hd hz hk (rs := parts.map fun (i,x) => (i,ρ x)) (by simpa using hr) hp)
    · cases ht
  case call c =>
    obtain ⟨callee,args,argTypes⟩ := c
    cases callee with
    | value f =>
      simp only [trOp,Option.bind_eq_bind,Option.bind_eq_some_iff] at ht; obtain ⟨i1,h1,i2,h2,ht⟩ := ht; simp at ht; subst ht
      cases h
    | invoke r m => cases ht
    | builtin b =>
      have exec : ∀ {s : Sem Value} {rv : Value},(builtin b argTypes ty (args.map fun | .const _ => true | _ => false) (args.map ρ)) = (do pure (.value (← s)) : Sem Next) → s.run P w = .ok rv w → Rep (env φ G H w) v rv →
          OpRun P ρ ⟨dst,.call ⟨.builtin b,args,argTypes⟩,ty,pos,after,guard⟩ w fun rv w' => w' = w ∧ Rep (env φ G H w) v rv := by
        intro s rv he hr hv
        refine .value (v := rv) (w' := w) ?_ ⟨rfl,hv⟩
        show (do let d ← (pure { target := .builtin b argTypes ty (args.map fun | .const _ => true | _ => false),args := args.map ρ } : Sem Deferred); invoke d.target d.args : Sem Next).run P w = _
        rw [Sem.run_bind]
        simp only [Sem.run_pure,Result.andThen_ok,invoke]
        rw [he]
        simp [hr]
      cases b <;> simp only [trOp,reduceCtorEq] at ht
      case len =>
        simp only [Option.bind_eq_bind,Option.bind_eq_some_iff] at ht
        obtain ⟨t,hty,d,hd,ht⟩ := ht
        split at ht
        · rename_i x e hargs
          simp only [Option.bind_eq_some_iff] at ht; obtain ⟨ix,hx,ht⟩ := ht; simp at ht; subst ht
          obtain ⟨rv,hr,hv⟩ := len_sound (P := P) (E := env φ G H w) hd hty (ty := ty) h (hρ _ _ hx)
          refine exec (s := Builtin.len_ argTypes ty (args.map ρ)) rfl ?_ hv
          have : args.map ρ = #[ρ x] := by rw [← Array.toArray_toList (xs := args),hargs]; simp
          rw [this]; exact hr
        · rename_i x hargs
          simp only [Option.bind_eq_some_iff] at ht; obtain ⟨ix,hx,ht⟩ := ht; simp at ht; subst ht
          obtain ⟨rv,hr,hv⟩ := lenStr_sound (P := P) (E := env φ G H w) hd hty (ty := ty) h (hρ _ _ hx)
          refine exec (s := Builtin.len_ argTypes ty (args.map ρ)) rfl ?_ hv
          have : args.map ρ = #[ρ x] := by rw [← Array.toArray_toList (xs := args),hargs]; simp
          rw [this]; exact hr
        · rename_i x kk ee hargs
          simp only [Option.bind_eq_some_iff] at ht; obtain ⟨ix,hx,ht⟩ := ht; simp at ht; subst ht
          obtain ⟨rv,hr,hv⟩ := mlen_sound (P := P) hs hd hty (ty := ty) h (hρ _ _ hx)
          refine exec (s := Builtin.len_ argTypes ty (args.map ρ)) rfl ?_ hv
          have : args.map ρ = #[ρ x] := by rw [← Array.toArray_toList (xs := args),hargs]; simp
          rw [this]; exact hr
        · rename_i x n e hargs
          simp at ht; subst ht
          simp only [opq,Option.some.injEq,Prod.mk.injEq] at h; obtain ⟨_,rfl⟩ := h
          refine exec (s := Builtin.len_ argTypes ty (args.map ρ)) rfl ?_ (.val _)
          have : args.map ρ = #[ρ x] := by rw [← Array.toArray_toList (xs := args),hargs]; simp
          rw [this]; exact lenc_sound (E := env φ G H w) hd hty (ρ x)
        · cases ht
      case min =>
        split at ht
        case h_2 => cases ht
        rename_i x y hargs
        simp only [Option.bind_eq_bind,Option.bind_eq_some_iff] at ht; obtain ⟨i1,h1,i2,h2,ht⟩ := ht; simp at ht; subst ht
        obtain ⟨rv,hr,hv⟩ := mn_sound (P := P) (E := env φ G H w) h (hρ _ _ h1) (hρ _ _ h2)
        refine exec (s := Builtin.min_ argTypes ty (args.map ρ)) rfl ?_ hv
        have : args.map ρ = #[ρ x,ρ y] := by rw [← Array.toArray_toList (xs := args),hargs]; simp
        rw [this]
        have hr' : (Builtin.min2 (ρ x) (ρ y)).run P w = .ok rv w := hr
        simp [Builtin.min_,hr']
      case max =>
        split at ht
        case h_2 => cases ht
        rename_i x y hargs
        simp only [Option.bind_eq_bind,Option.bind_eq_some_iff] at ht; obtain ⟨i1,h1,i2,h2,ht⟩ := ht; simp at ht; subst ht
        obtain ⟨rv,hr,hv⟩ := mx_sound (P := P) (E := env φ G H w) h (hρ _ _ h1) (hρ _ _ h2)
        refine exec (s := Builtin.max_ argTypes ty (args.map ρ)) rfl ?_ hv
        have : args.map ρ = #[ρ x,ρ y] := by rw [← Array.toArray_toList (xs := args),hargs]; simp
        rw [this]
        have hr' : (Builtin.max2 (ρ x) (ρ y)).run P w = .ok rv w := hr
        simp [Builtin.max_,hr']
      case append =>
        simp only [Option.bind_eq_bind] at ht
        split at ht
        case h_2 => cases ht
        simp only [Option.bind_eq_some_iff] at ht; obtain ⟨d,hd,d2,hd2,ht⟩ := ht
        split at ht
        case h_2 => cases ht
        simp only [Option.bind_eq_some_iff] at ht; obtain ⟨k,hk,b,hb,z,hz,ht⟩ := ht
        split at ht
        case isTrue => cases ht
        simp only [Option.bind_eq_some_iff] at ht; obtain ⟨i1,h1,i2,h2,ht⟩ := ht; simp at ht; subst ht
        cases h
      case copy =>
        simp only [Option.bind_eq_bind] at ht
        split at ht
        case h_2 => cases ht
        simp only [Option.bind_eq_some_iff] at ht; obtain ⟨d,hd,d2,hd2,ht⟩ := ht
        split at ht
        case h_2 => cases ht
        simp only [Option.bind_eq_some_iff] at ht; obtain ⟨k,hk,i1,h1,i2,h2,ht⟩ := ht; simp at ht; subst ht
        cases h
      case clear =>
        simp only [Option.bind_eq_bind] at ht
        split at ht
        case h_2 => cases ht
        simp only [Option.bind_eq_some_iff] at ht; obtain ⟨d,hd,ht⟩ := ht
        split at ht
        case h_2 => cases ht
        simp only [Option.bind_eq_some_iff] at ht; obtain ⟨k,hk,z,hz,ht⟩ := ht
        split at ht
        case isTrue => cases ht
        simp only [Option.bind_eq_some_iff] at ht; obtain ⟨i1,h1,ht⟩ := ht; simp at ht; subst ht
        cases h
  case alloc t =>
    simp only [trOp,Option.bind_eq_bind,Option.bind_eq_some_iff] at ht; obtain ⟨z,hz,ht⟩ := ht
    split at ht
    · simp at ht; subst ht; cases h
    · cases ht
  case box t x =>
    simp only [trOp,Option.bind_eq_bind,Option.bind_eq_some_iff] at ht; obtain ⟨ix,hx,ht⟩ := ht; simp at ht; subst ht; cases h
  case store t a x =>
    simp only [trOp,Option.bind_eq_bind,Option.bind_eq_some_iff] at ht; obtain ⟨k,hk,i1,h1,i2,h2,ht⟩ := ht; simp at ht; subst ht; cases h
  case buildSlice t n ps =>
    simp only [trOp,Option.bind_eq_bind,Option.bind_eq_some_iff] at ht; obtain ⟨d,hd,ht⟩ := ht
    split at ht
    case h_2 => cases ht
    simp only [Option.bind_eq_some_iff] at ht; obtain ⟨k,hk,z,hz,ht⟩ := ht
    split at ht
    case isTrue => cases ht
    simp only [Option.bind_eq_some_iff] at ht; obtain ⟨q,hq,ht⟩ := ht; simp at ht; subst ht; cases h
  case makeSlice t l c =>
    simp only [trOp,Option.bind_eq_bind,Option.bind_eq_some_iff] at ht; obtain ⟨d,hd,ht⟩ := ht
    split at ht
    case h_2 => cases ht
    simp only [Option.bind_eq_some_iff] at ht; obtain ⟨k,hk,z,hz,ht⟩ := ht
    split at ht
    case isTrue => cases ht
    simp only [Option.bind_eq_some_iff] at ht; obtain ⟨b,hb,i1,h1,i2,h2,ht⟩ := ht; simp at ht; subst ht; cases h
  case makeMap t r =>
    cases r with
    | some r => cases ht
    | none =>
      simp only [trOp,Option.bind_eq_bind,Option.bind_eq_some_iff] at ht; obtain ⟨d,hd,ht⟩ := ht
      split at ht
      · simp at ht; subst ht; cases h
      · cases ht
  case insert t m k x =>
    simp only [trOp] at ht
    split at ht
    · simp only [Option.bind_eq_bind,Option.bind_eq_some_iff] at ht; obtain ⟨i1,h1,i2,h2,i3,h3,ht⟩ := ht; simp at ht; subst ht; cases h
    · cases ht
  case mapUpdate t m k x =>
    simp only [trOp] at ht
    split at ht
    · simp only [Option.bind_eq_bind,Option.bind_eq_some_iff] at ht; obtain ⟨i1,h1,i2,h2,i3,h3,ht⟩ := ht; simp at ht; subst ht; cases h
    · cases ht
  case lookup t m k ok =>
    cases ok with
    | false =>
      simp only [trOp] at ht
      split at ht
      case isFalse => cases ht
      rename_i hma
      simp only [Option.bind_eq_bind,Option.bind_eq_some_iff] at ht; obtain ⟨z,hz,i1,h1,i2,h2,ht⟩ := ht; simp at ht; subst ht
      exact fin rfl (mval_sound (P := P) hs hma hz h (hρ _ _ h1) (hρ _ _ h2) fun _ zv _ => ofValue_rep zv)
    | true =>
      simp only [trOp] at ht
      split at ht
      case isFalse => cases ht
      rename_i hma
      simp only [Option.bind_eq_bind,Option.bind_eq_some_iff] at ht; obtain ⟨z,hz,i1,h1,i2,h2,ht⟩ := ht; simp at ht; subst ht
      obtain ⟨r1,r2,⟨h3,-⟩,h4⟩ := mget_sound (P := P) hs hma hz h (hρ _ _ h1) (hρ _ _ h2) fun _ zv _ => ofValue_rep zv
      exact fin rfl ⟨_,h3,h4⟩
  case range t m =>
    simp only [trOp,Option.bind_eq_bind,Option.bind_eq_some_iff] at ht; obtain ⟨d,hd,ht⟩ := ht
    split at ht
    · simp only [Option.bind_eq_some_iff] at ht; obtain ⟨i1,h1,ht⟩ := ht; simp at ht; subst ht; cases h
    · cases ht
  case entry it =>
    simp only [trOp,Option.bind_eq_bind,Option.bind_eq_some_iff] at ht; obtain ⟨i1,h1,ht⟩ := ht; simp at ht; subst ht
    exact fin rfl (mentry_sound (P := P) hs h hp (hρ _ _ h1))
  case next it b =>
    cases b with
    | true => cases ht
    | false =>
      simp only [trOp,Option.bind_eq_bind,Option.bind_eq_some_iff] at ht; obtain ⟨i1,h1,ht⟩ := ht; simp at ht; subst ht
      cases h
  all_goals cases ht
def _root_.Go.Abs.IOp.cls : IOp → Nat
  | .alloc .. | .box .. | .bslice .. | .mksl .. => 1
  | .store .. | .copy .. | .clr .. | .mkmap | .mset .. | .mrange _ => 2
  | .append .. => 5
  | .call .. => 3
  | .mnext _ => 4
  | _ => 0
def opCls : Op → Nat
  | .alloc _ | .box .. | .buildSlice .. | .makeSlice .. => 1
  | .store .. | .makeMap .. | .insert .. | .mapUpdate .. | .range .. | .call { callee := .builtin .copy,.. } | .call { callee := .builtin .clear,.. } => 2
  | .call { callee := .builtin .append,.. } => 5
  | .call { callee := .value _,.. } => 3
  | .next .. => 4
  | _ => 0
theorem some_bind {α β : Type} {x : Option α} {f : α → Option β} {b : β} (h : (x >>= f) = some b) : ∃ a,x = some a ∧ f a = some b := Option.bind_eq_some_iff.1 h
theorem tr_cls {op : Op} {iop : IOp} (h : trOp P op = some iop) : iop.cls = opCls op := by
  unfold trOp at h
  split at h
  all_goals
    repeat' first
      | (cases h; rfl)
      | (obtain ⟨_,_,h⟩ := some_bind h)
      | (split at h)
      | (exact absurd h (by simp))
theorem opCls_call (c : Call) : opCls (.call c) ≠ 1 := by
  obtain ⟨callee,args,ts⟩ := c
  cases callee with
  | builtin b => cases b <;> simp [opCls]
  | _ => simp [opCls]
theorem opa_run {B : Nat} {φ : Nat → Option Nat} {G : Nat → Prop} {H : AHeap} {w : World} (hs : SimH φ G H w) (hρ : ORep (env φ G H w) fr ρ) {o : Oper} {iop : IOp} (ht : trOp P o.op = some iop) {p : Prop} {mk : Nat → AVal} {cs : List AVal}
    (h : opa iop fr = some (p,mk,cs)) (hp : p) {i : Nat} {H' : AHeap} (hn : NewAt H i (.cells cs) H') (hB : B ≤ i) :
    OpRun P ρ o w fun rv w' => ∃ φ',Nx B G φ H w φ' H' w' ∧ Rep (env φ' G H' w') (mk i) rv := by
  obtain ⟨dst,op,ty,pos,after,guard⟩ := o
  simp only at ht
  have fin : ∀ {s : Sem Value},execOp ρ ⟨dst,op,ty,pos,after,guard⟩ = (do pure (.value (← s)) : Sem Next) → (∃ rv w' φ',s.run P w = .ok rv w' ∧ Nx B G φ H w φ' H' w' ∧ Rep (env φ' G H' w') (mk i) rv) →
      OpRun P ρ ⟨dst,op,ty,pos,after,guard⟩ w fun rv w' => ∃ φ',Nx B G φ H w φ' H' w' ∧ Rep (env φ' G H' w') (mk i) rv := by
    intro s he ⟨rv,w',φ',hr,hv⟩
    refine .value (v := rv) (w' := w') ?_ ⟨φ',hv⟩
    rw [he]; simp [hr]
  cases op
  case alloc t =>
    simp only [trOp,Option.bind_eq_bind,Option.bind_eq_some_iff] at ht; obtain ⟨z,hz,ht⟩ := ht
    split at ht
    case isFalse => cases ht
    simp at ht; subst ht
    simp only [opa,Option.some.injEq,Prod.mk.injEq] at h; obtain ⟨_,rfl,rfl⟩ := h
    exact fin rfl (alloc_sound hs hn hB hz)
  case box t x =>
    simp only [trOp,Option.bind_eq_bind,Option.bind_eq_some_iff] at ht; obtain ⟨ix,hx,ht⟩ := ht; simp at ht; subst ht
    simp only [opa,Option.some.injEq,Prod.mk.injEq] at h; obtain ⟨rfl,rfl,rfl⟩ := h
    exact fin rfl (box_sound hs hn hB hp (hρ _ _ hx))
  case buildSlice t n ps =>
    simp only [trOp,Option.bind_eq_bind,Option.bind_eq_some_iff] at ht; obtain ⟨d,hd,ht⟩ := ht
    split at ht
    case h_2 => cases ht
    simp only [Option.bind_eq_some_iff] at ht; obtain ⟨k,hk,z,hz,ht⟩ := ht
    split at ht
    case isTrue => cases ht
    rename_i hc
    simp only [Bool.or_eq_true,decide_eq_true_eq,bne_iff_ne,ne_eq,Bool.not_eq_true',not_or,Decidable.not_not] at hc
    simp only [Option.bind_eq_some_iff] at ht; obtain ⟨q,hq,ht⟩ := ht; simp at ht; subst ht
    simp only [opa,Option.some.injEq,Prod.mk.injEq] at h; obtain ⟨rfl,rfl,rfl⟩ := h
    have hr := trParts_rep (E := env φ G H w) (fr := fr) hρ _ _ hq
    have hsm := hc.1.1.2
    have hzk := hc.1.2
    clear hc
    have := bslice_sound (P := P) (ps := q.map fun p => (p.1,p.2.1,p.2.2.ev fr)) (rs := ps.map fun (i,x) => (i,ρ x)) hs hn hB hd hk hz hzk hsm (by rw [Array.toList_map]; exact hr) hp
    exact fin rfl this
  case makeSlice t l c =>
    simp only [trOp,Option.bind_eq_bind,Option.bind_eq_some_iff] at ht; obtain ⟨d,hd,ht⟩ := ht
    split at ht
    case h_2 => cases ht
    simp only [Option.bind_eq_some_iff] at ht; obtain ⟨k,hk,z,hz,ht⟩ := ht
    split at ht
    case isTrue => cases ht
    rename_i hc
    simp only [Bool.or_eq_true,decide_eq_true_eq,bne_iff_ne,ne_eq,Bool.not_eq_true',not_or,Decidable.not_not] at hc
    simp only [Option.bind_eq_some_iff] at ht; obtain ⟨b,hb,i1,h1,i2,h2,ht⟩ := ht; simp at ht; subst ht
    simp only [opa] at h
    split at h
    case h_2 => cases h
    rename_i l' c' hl hc'
    simp only [Option.some.injEq,Prod.mk.injEq] at h; obtain ⟨rfl,rfl,rfl⟩ := h
    obtain ⟨kl,hrl⟩ := (hρ _ _ h1).of_int hl
    obtain ⟨kc,hrc⟩ := (hρ _ _ h2).of_int hc'
    have := mksl_sound (P := P) (kl := kl) (kc := kc) hs hn hB hd hk hb hz hc.1.2 hp.1 hp.2.1 hp.2.2.1 hp.2.2.2
    rw [← hrl,← hrc] at this
    exact fin rfl this
  all_goals
    exfalso
    have := tr_cls ht
    cases iop <;> first | (cases h; done) | (cases this; done) | exact opCls_call _ this.symm
theorem opl_run {B : Nat} {φ : Nat → Option Nat} {G : Nat → Prop} {H : AHeap} {w : World} (hs : SimH φ G H w) (hρ : ORep (env φ G H w) fr ρ) {o : Oper} {iop : IOp} (ht : trOp P o.op = some iop) {p : Prop} {v : AVal} {n : Nat} {pl : AHeap → Blk → AHeap} {H' : AHeap}
    (h : opl iop fr H n pl = some (p,v,H')) (hp : p) (hpl : ∀ b,NewAt H n b (pl H b)) (hpl2 : ∀ i b c,H[i]? = some b → b ≠ .hole → NewAt (H.set i .dead) n c (pl (H.set i .dead) c)) (hB : B ≤ n) :
    OpRun P ρ o w fun rv w' => ∃ φ',Nx B G φ H w φ' H' w' ∧ Rep (env φ' G H' w') v rv := by
  obtain ⟨dst,op,ty,pos,after,guard⟩ := o
  simp only at ht
  cases op
  case store t a x =>
    simp only [trOp,Option.bind_eq_bind,Option.bind_eq_some_iff] at ht; obtain ⟨k,hk,i1,h1,i2,h2,ht⟩ := ht; simp at ht; subst ht
    obtain ⟨rfl,w',hr,hn⟩ := sto_sound (P := P) (B := B) hs hk h hp (hρ _ _ h1) (hρ _ _ h2)
    refine .skip (w' := w') ?_ ⟨φ,hn,.any _⟩
    show (do Instr.storeAt t (ρ a) (ρ x); pure .skip : Sem Next).run P w = _
    rw [Sem.run_bind,hr]; rfl
  case makeMap t r =>
    cases r with
    | some r => cases ht
    | none =>
      simp only [trOp,Option.bind_eq_bind,Option.bind_eq_some_iff] at ht; obtain ⟨d,hd,ht⟩ := ht
      split at ht
      case h_2 => cases ht
      simp at ht; subst ht
      simp only [opl,Option.some.injEq,Prod.mk.injEq] at h
      obtain ⟨_,rfl,rfl⟩ := h
      obtain ⟨rv,w',φ',hr,hn,hv⟩ := mkmap_sound (P := P) (B := B) hs hd hpl hB
      refine .value (v := rv) (w' := w') ?_ ⟨φ',hn,hv⟩
      show (do pure (.value (← Instr.makeMap t none)) : Sem Next).run P w = _
      rw [Sem.run_bind,hr]; rfl
  case insert t m k x =>
    simp only [trOp] at ht
    split at ht
    case isFalse => cases ht
    rename_i hma
    simp only [Option.bind_eq_bind,Option.bind_eq_some_iff] at ht; obtain ⟨i1,h1,i2,h2,i3,h3,ht⟩ := ht; simp at ht; subst ht
    obtain ⟨rfl,w',hr,hn⟩ := mset_sound (P := P) (B := B) hs hma h (hρ _ _ h1) (hρ _ _ h2) (hρ _ _ h3)
    refine .skip (w' := w') ?_ ⟨φ,hn,.any _⟩
    show (do Instr.mapUpdate t (ρ m) (ρ k) (ρ x); pure .skip : Sem Next).run P w = _
    rw [Sem.run_bind,hr]; rfl
  case mapUpdate t m k x =>
    simp only [trOp] at ht
    split at ht
    case isFalse => cases ht
    rename_i hma
    simp only [Option.bind_eq_bind,Option.bind_eq_some_iff] at ht; obtain ⟨i1,h1,i2,h2,i3,h3,ht⟩ := ht; simp at ht; subst ht
    obtain ⟨rfl,w',hr,hn⟩ := mset_sound (P := P) (B := B) hs hma h (hρ _ _ h1) (hρ _ _ h2) (hρ _ _ h3)
    refine .skip (w' := w') ?_ ⟨φ,hn,.any _⟩
    show (do Instr.mapUpdate t (ρ m) (ρ k) (ρ x); pure .skip : Sem Next).run P w = _
    rw [Sem.run_bind,hr]; rfl
  case range t m =>
    simp only [trOp,Option.bind_eq_bind,Option.bind_eq_some_iff] at ht; obtain ⟨d,hd,ht⟩ := ht
    split at ht
    case h_2 => cases ht
    simp only [Option.bind_eq_some_iff] at ht; obtain ⟨i1,h1,ht⟩ := ht; simp at ht; subst ht
    obtain ⟨rv,w',φ',hr,hn,hv⟩ := mrange_sound (P := P) (B := B) hs hd hpl hB h (hρ _ _ h1)
    refine .value (v := rv) (w' := w') ?_ ⟨φ',hn,hv⟩
    show (do pure (.value (← Instr.range t (ρ m))) : Sem Next).run P w = _
    rw [Sem.run_bind,hr]; rfl
  case call c =>
    obtain ⟨callee,args,argTypes⟩ := c
    cases callee with
    | value f =>
      have := tr_cls ht
      cases iop <;> first | (cases h; done) | (cases this; done)
    | invoke r m => cases ht
    | builtin b =>
      have exec : ∀ {s : Sem Value} {rv : Value} {w' : World},(builtin b argTypes ty (args.map fun | .const _ => true | _ => false) (args.map ρ)) = (do pure (.value (← s)) : Sem Next) → s.run P w = .ok rv w' → (∃ φ',Nx B G φ H w φ' H' w' ∧ Rep (env φ' G H' w') v rv) →
          OpRun P ρ ⟨dst,.call ⟨.builtin b,args,argTypes⟩,ty,pos,after,guard⟩ w fun rv w' => ∃ φ',Nx B G φ H w φ' H' w' ∧ Rep (env φ' G H' w') v rv := by
        intro s rv w' he hr hv
        refine .value (v := rv) (w' := w') ?_ hv
        show (do let d ← (pure { target := .builtin b argTypes ty (args.map fun | .const _ => true | _ => false),args := args.map ρ } : Sem Deferred); invoke d.target d.args : Sem Next).run P w = _
        rw [Sem.run_bind]
        simp only [Sem.run_pure,Result.andThen_ok,invoke]
        rw [he]
        simp [hr]
      cases b
      case append =>
        simp only [trOp,Option.bind_eq_bind] at ht
        split at ht
        case h_2 => cases ht
        rename_i s x t u hargs hts
        simp only [Option.bind_eq_some_iff] at ht; obtain ⟨d,hd,d2,hd2,ht⟩ := ht
        split at ht
        case h_2 => cases ht
        rename_i e e2
        simp only [Option.bind_eq_some_iff] at ht; obtain ⟨k,hk,b,hb,z,hz,ht⟩ := ht
        split at ht
        case isTrue => cases ht
        rename_i hc
        simp only [Bool.or_eq_true,decide_eq_true_eq,bne_iff_ne,ne_eq,not_or,Decidable.not_not] at hc
        simp only [Option.bind_eq_some_iff] at ht; obtain ⟨i1,h1,i2,h2,ht⟩ := ht; simp at ht; subst ht
        obtain ⟨rv,w',φ',hr,hn,hv⟩ := app_sound (P := P) (ty := ty) hs hd hk hb hz hc.2 hc.1.2 ⟨e2,hd2⟩ hpl hpl2 hB h hp (hρ _ _ h1) (hρ _ _ h2)
        refine exec (s := Builtin.append_ argTypes ty (args.map ρ)) rfl ?_ ⟨φ',hn,hv⟩
        have ha : args.map ρ = #[ρ s,ρ x] := by rw [← Array.toArray_toList (xs := args),hargs]; simp
        have ht : argTypes = #[t,u] := by rw [← Array.toArray_toList (xs := argTypes),hts]
        rw [ha,ht]; exact hr
      case copy =>
        simp only [trOp,Option.bind_eq_bind] at ht
        split at ht
        case h_2 => cases ht
        rename_i s x t u hargs hts
        simp only [Option.bind_eq_some_iff] at ht; obtain ⟨d,hd,d2,hd2,ht⟩ := ht
        split at ht
        case h_2 => cases ht
        rename_i e e2
        simp only [Option.bind_eq_some_iff] at ht; obtain ⟨k,hk,i1,h1,i2,h2,ht⟩ := ht; simp at ht; subst ht
        have ht : argTypes = #[t,u] := by rw [← Array.toArray_toList (xs := argTypes),hts]
        obtain ⟨rv,w',hr,hn,hv⟩ := cop_sound (P := P) (B := B) (ty := ty) hs hd hk (ts := argTypes) (by rw [ht]; rfl) h hp (hρ _ _ h1) (hρ _ _ h2)
        refine exec (s := Builtin.copy_ argTypes ty (args.map ρ)) rfl ?_ ⟨φ,hn,hv⟩
        have ha : args.map ρ = #[ρ s,ρ x] := by rw [← Array.toArray_toList (xs := args),hargs]; simp
        rw [ha]; exact hr
      case clear =>
        simp only [trOp,Option.bind_eq_bind] at ht
        split at ht
        case h_2 => cases ht
        rename_i s t hargs hts
        simp only [Option.bind_eq_some_iff] at ht; obtain ⟨d,hd,ht⟩ := ht
        split at ht
        case h_2 => cases ht
        rename_i e
        simp only [Option.bind_eq_some_iff] at ht; obtain ⟨k,hk,z,hz,ht⟩ := ht
        split at ht
        case isTrue => cases ht
        rename_i hc
        simp only [Bool.or_eq_true,bne_iff_ne,ne_eq,not_or,Decidable.not_not,Bool.not_eq_true',Bool.not_eq_false] at hc
        simp only [Option.bind_eq_some_iff] at ht; obtain ⟨i1,h1,ht⟩ := ht; simp at ht; subst ht
        have ht : argTypes = #[t] := by rw [← Array.toArray_toList (xs := argTypes),hts]
        obtain ⟨rv,w',hr,hn,hv⟩ := clr_sound (P := P) (B := B) (ty := ty) hs hd hk hz hc.1 hc.2 h hp (hρ _ _ h1)
        refine exec (s := Builtin.clear_ argTypes ty (args.map ρ)) rfl ?_ ⟨φ,hn,hv⟩
        have ha : args.map ρ = #[ρ s] := by rw [← Array.toArray_toList (xs := args),hargs]; simp
        rw [ha,ht]; exact hr
      all_goals
        exfalso
        have := tr_cls ht
        cases iop <;> first | (cases h; done) | (cases this; done)
  all_goals
    exfalso
    have := tr_cls ht
    cases iop <;> first | (cases h; done) | (cases this; done)
theorem opl2_run {B : Nat} {φ : Nat → Option Nat} {G : Nat → Prop} {H : AHeap} {w : World} (hs : SimH φ G H w) (hρ : ORep (env φ G H w) fr ρ) {o : Oper} {iop : IOp} (ht : trOp P o.op = some iop) {K : AVal → AHeap → Prop}
    (h : opl2 iop fr H K) (hpl2 : ∀ i b c,H[i]? = some b → b ≠ .hole → NewAt (H.set i .dead) H.length c (H.set i .dead ++ [c])) (hB : B ≤ H.length) : OpRun P ρ o w fun rv w' => ∃ v H' φ',K v H' ∧ Nx B G φ H w φ' H' w' ∧ Rep (env φ' G H' w') v rv := by
  obtain ⟨dst,op,ty,pos,after,guard⟩ := o
  simp only at ht
  unfold opl2 at h
  split at h
  case h_2 => exact h.elim
  rename_i k bytes s x
  have hcl := tr_cls ht
  cases op with
  | call c =>
    obtain ⟨callee,args,argTypes⟩ := c
    cases callee with
    | builtin b =>
      cases b
      case append =>
        simp only [trOp,Option.bind_eq_bind] at ht
        split at ht
        case h_2 => cases ht
        rename_i s' x' t u hargs hts
        simp only [Option.bind_eq_some_iff] at ht; obtain ⟨d,hd,d2,hd2,ht⟩ := ht
        split at ht
        case h_2 => cases ht
        rename_i e e2
        simp only [Option.bind_eq_some_iff] at ht; obtain ⟨k',hk,b,hb,z,hz,ht⟩ := ht
        split at ht
        case isTrue => cases ht
        rename_i hc
        simp only [Bool.or_eq_true,decide_eq_true_eq,bne_iff_ne,ne_eq,not_or,Decidable.not_not] at hc
        simp only [Option.bind_eq_some_iff] at ht; obtain ⟨i1,h1,i2,h2,ht⟩ := ht
        simp only [Option.some.injEq,IOp.append.injEq] at ht
        obtain ⟨rfl,rfl,rfl,rfl⟩ := ht
        unfold app2A at h
        split at h
        case h_2 => exact h.elim
        rename_i m xc px hsx
        split at h
        case h_2 => exact h.elim
        rename_i i off len lb k2 hown
        split at h
        case h_2 => exact h.elim
        rename_i cs hi
        obtain ⟨rfl,hpx,hm,hfit,hcell,hf,hK1,hK2⟩ := h
        have r1 := hρ _ _ h1
        rw [hown] at r1
        obtain ⟨rv,w',φ',hr,hor⟩ := app2_sound (P := P) (B := B) (ty := ty) (n := H.length) (pl := fun H b => H ++ [b]) hs hd hk hb hz hc.2 hc.1.2 ⟨e2,hd2⟩ (fun b => NewAt.push H b) hpl2 hB hsx hpx hi hm hfit hcell hf r1 (hρ _ _ h2)
        refine .value (v := rv) (w' := w') ?_ ?_
        · have ha : args.map ρ = #[ρ s',ρ x'] := by rw [← Array.toArray_toList (xs := args),hargs]; simp
          have ht : argTypes = #[t,u] := by rw [← Array.toArray_toList (xs := argTypes),hts]
          show (do pure (.value (← Builtin.append_ argTypes ty (args.map ρ))) : Sem Next).run P w = _
          rw [ha,ht,Sem.run_bind,hr]; rfl
        · rcases hor with ⟨hn,hv⟩ | ⟨hn,hv⟩
          · exact ⟨_,_,φ',hK1,hn,hv⟩
          · exact ⟨_,_,φ',hK2,hn,hv⟩
      all_goals
        exfalso
        cases hcl
    | _ => exfalso; cases hcl
  | _ => exfalso; cases hcl
theorem mnext_run {B : Nat} {φ : Nat → Option Nat} {G : Nat → Prop} {H : AHeap} {w : World} (hs : SimH φ G H w) (hρ : ORep (env φ G H w) fr ρ) {o : Oper} {x : IOpd} (ht : trOp P o.op = some (.mnext x)) {K : AVal → AHeap → Prop}
    (h : mnextA (x.ev fr) H K) : OpRun P ρ o w fun rv w' => ∃ v H',K v H' ∧ Nx B G φ H w φ H' w' ∧ Rep (env φ G H' w') v rv := by
  obtain ⟨dst,op,ty,pos,after,guard⟩ := o
  simp only at ht
  have hc := tr_cls ht
  cases op with
  | next it b =>
    cases b with
    | true => cases ht
    | false =>
      simp only [trOp,Option.bind_eq_bind,Option.bind_eq_some_iff] at ht; obtain ⟨i1,h1,ht⟩ := ht; simp at ht; subst ht
      obtain ⟨rv,w',hr,hv⟩ := mnext_sound (P := P) (B := B) (ty := ty) hs h (hρ _ _ h1)
      refine .value (v := rv) (w' := w') ?_ hv
      show (do pure (.value (← Instr.next (ρ it) false ty)) : Sem Next).run P w = _
      rw [Sem.run_bind,hr]; rfl
  | call c =>
    obtain ⟨callee,args,ts⟩ := c
    cases callee with
    | builtin b => exfalso; cases b <;> cases hc
    | _ => exfalso; cases hc
  | _ => exfalso; cases hc
end
end Go.Abs
