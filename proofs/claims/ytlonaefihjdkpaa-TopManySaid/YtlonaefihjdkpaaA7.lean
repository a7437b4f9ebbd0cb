/- Calls,and the operations of a region one after the other. -/
import Derived.Test.YtlonaefihjdkpaaA6
namespace Go.Abs
open AVal
def Fw (rd : Option Nat) : Fence := { fn := fun _ => True,depth := none,alive := false,round := rd }
theorem Fw_none : Fw none = Fence.wide := rfl
theorem calls_Fw {rd : Option Nat} {P : Program} {f : FuncId} {args : Array Value} {w : World} {R : Ending → World → Prop} (h : CallsIn Fence.wide 0 P f args w R) : CallsIn (Fw rd) 0 P f args w R := h
theorem round_Fw {rd : Option Nat} {P : Program} {l : Nat} {f : FuncId} {tmps : Array Value} {as bd : Code} {w : World} {R : Ending → World → Prop} (h : RoundIn Fence.wide 0 P l f tmps as bd w R) : RoundIn (Fw rd) 0 P l f tmps as bd w R := h
def InvIn (P : Program) (rf : Value) (rargs : Array Value) (w : World) (post : Value → World → Prop) : Prop :=
  ∃ d,(Deferred.ofValue rf rargs).run P w = .ok d w ∧
    ((∃ f as,(invoke d.target d.args).run P w = .ok (.enter f as) w ∧ CallsIn Fence.wide 0 P f as w fun e w' => ∃ rv,e = .returned rv ∧ post rv w') ∨
     (∃ l f tmps as bd,(invoke d.target d.args).run P w = .ok (.round l f tmps as bd) w ∧ RoundIn Fence.wide 0 P l f tmps as bd w fun e w' => ∃ rv,e = .returned rv ∧ post rv w'))
theorem InvIn.mono {P : Program} {rf : Value} {rargs : Array Value} {w : World} {post post' : Value → World → Prop} (h : InvIn P rf rargs w post) (hp : ∀ rv w',post rv w' → post' rv w') : InvIn P rf rargs w post' := by
  obtain ⟨d,hd,h⟩ := h
  refine ⟨d,hd,?_⟩
  rcases h with ⟨f,as,hi,hc⟩ | ⟨l,f,tmps,as,bd,hi,hc⟩
  · exact .inl ⟨f,as,hi,hc.mono fun e w' ⟨rv,he,hr⟩ => ⟨rv,he,hp _ _ hr⟩⟩
  · exact .inr ⟨l,f,tmps,as,bd,hi,hc.mono fun e w' ⟨rv,he,hr⟩ => ⟨rv,he,hp _ _ hr⟩⟩
def After (R : AVal → AHeap → Prop) (φ : Nat → Option Nat) (G : Nat → Prop) (H : AHeap) (w : World) (rv : Value) (w' : World) : Prop :=
  ∃ v H' φ',R v H' ∧ SimH φ' G H' w' ∧ StepR H.length φ H w φ' H' w' ∧ Rep (env φ' G H' w') v rv
def CallV (P : Program) (fv : AVal) (args : List AVal) (H : AHeap) (R : AVal → AHeap → Prop) : Prop :=
  ∀ φ G w rf rargs,SimH φ G H w → Rep (env φ G H w) fv rf → CRep (env φ G H w) args rargs → InvIn P rf rargs w (After R φ G H w)
theorem CallV.mono {P : Program} {fv : AVal} {args : List AVal} {H : AHeap} {R R' : AVal → AHeap → Prop} (h : CallV P fv args H R) (hr : ∀ v H',R v H' → R' v H') : CallV P fv args H R' :=
  fun φ G w rf rargs h1 h2 h3 => (h φ G w rf rargs h1 h2 h3).mono fun _ _ ⟨v,H',φ',r,rest⟩ => ⟨v,H',φ',hr _ _ r,rest⟩
def Spec (P : Program) (f : FuncId) (args : List AVal) (H : AHeap) (R : AVal → AHeap → Prop) : Prop :=
  (∀ as w,(callFunc f as).run P w = .ok (.enter f as) w) ∧
  ∀ φ G w rargs,SimH φ G H w → CRep (env φ G H w) args rargs → CallsIn Fence.wide 0 P f rargs w fun e w' => ∃ rv,e = .returned rv ∧ After R φ G H w rv w'
theorem Spec.mono {P : Program} {f : FuncId} {args : List AVal} {H : AHeap} {R R' : AVal → AHeap → Prop} (h : Spec P f args H R) (hr : ∀ v H',R v H' → R' v H') : Spec P f args H R' :=
  ⟨h.1,fun φ G w rargs h1 h2 => (h.2 φ G w rargs h1 h2).mono fun _ _ ⟨rv,he,v,H',φ',r,rest⟩ => ⟨rv,he,v,H',φ',hr _ _ r,rest⟩⟩
theorem CallV.of_spec {P : Program} {f : FuncId} {first cap args : List AVal} {H : AHeap} {R : AVal → AHeap → Prop} (h : Spec P f (first ++ args ++ cap) H R) : CallV P (.fn (.func f) first cap) args H R := by
  intro φ G w rf rargs hs hf ha
  obtain ⟨fs,cs,rfl,h1,h2,r1,r2⟩ := hf.inv_fn
  refine ⟨{ target := .fn (.func f) cs,args := fs ++ rargs },rfl,.inl ⟨f,fs ++ rargs ++ cs,?_,?_⟩⟩
  · simp only [invoke]; exact h.1 _ _
  · exact h.2 φ G w _ hs ((CRep.append (a := first) ⟨h1,r1⟩ ha).append ⟨h2,r2⟩)
/-! ### Operations -/
structure IIns where
  dst : Option Nat
  op : IOp
  guard : Option (Nat × Bool)
  deriving Inhabited
def trIns (P : Program) (n : Nat) (ops : Array Oper) (o : Oper) : Option IIns := do
  let op ← trOp P o.op
  if o.dst.any (n ≤ ·) then none else
  match o.guard with
  | none => some { dst := o.dst,op,guard := none }
  | some (j,b) => do
    let g ← (ops[j]?).bind (·.dst)
    if n ≤ g then none else some { dst := o.dst,op,guard := some (g,b) }
def trInss (P : Program) (n : Nat) (ops : Array Oper) : List Oper → Option (List IIns)
  | [] => some []
  | o :: r => do some ((← trIns P n ops o) :: (← trInss P n ops r))
def Fr.putd (fr : Fr) : Option Nat → AVal → Fr
  | none,_ => fr
  | some d,v => fr.put d v
section
variable (P : Program)
def istep (i : IIns) (fr : Fr) (H : AHeap) (K : Fr → AHeap → Prop) : Prop :=
  match i.op with
  | .call f args => CallV P (f.ev fr) (args.map (·.ev fr)) H fun v H' => K (fr.putd i.dst v) H'
  | .mnext x => mnextA (x.ev fr) H fun v H' => K (fr.putd i.dst v) H'
  | op => match opq op fr H with
    | some (p,v) => p ∧ K (fr.putd i.dst v) H
    | none => match opa op fr with
      | some (p,mk,cs) => p ∧ K (fr.putd i.dst (mk H.length)) (H ++ [.cells cs])
      | none => match opl op fr H H.length (fun H b => H ++ [b]) with
        | some (p,v,H') => p ∧ K (fr.putd i.dst v) H'
        | none => opl2 op fr H fun v H' => K (fr.putd i.dst v) H'
abbrev AVal.U : AVal := .val undef
def iguard (g : Option (Nat × Bool)) (dst : Option Nat) (fr : Fr) (yes no : Fr → Prop) : Prop :=
  match g with
  | none => yes fr
  | some (s,b) => match fr.get s with
    | .val (.bool t) => (t = b → yes (fr.put s (B b))) ∧ (t = (!b) → no ((fr.put s (B (!b))).putd dst U))
    | .val (.tuple _) => no (fr.putd dst U)
    | _ => False
def iops : List IIns → Fr → AHeap → (Fr → AHeap → Prop) → Prop
  | [],fr,H,K => K fr H
  | i :: r,fr,H,K => iguard i.guard i.dst fr (fun fr => istep P i fr H fun fr H => iops r fr H K) (fun fr => iops r fr H K)
end
/-! ### They are sound -/
theorem FrRep.put {E : Env} {fr : Fr} {tmps : Array Value} (h : FrRep E fr tmps) {d : Nat} (hd : d < tmps.size) {v : AVal} {rv : Value} (hr : Rep E v rv) : FrRep E (fr.put d v) (tmps.setIfInBounds d rv) := by
  intro t
  rw [Fr.get_put,Array.getD_eq_getD_getElem?,Array.getElem?_setIfInBounds]
  by_cases h1 : d = t
  · subst h1; simp [hd]; exact hr
  · rw [if_neg h1,if_neg h1,← Array.getD_eq_getD_getElem?]; exact h t
theorem FrRep.tell {E : Env} {fr : Fr} {tmps : Array Value} (h : FrRep E fr tmps) {d : Nat} {v : AVal} (hr : Rep E v (tmps.getD d undef)) : FrRep E (fr.put d v) tmps := by
  intro t
  rw [Fr.get_put]
  by_cases h1 : d = t
  · subst h1; simpa using hr
  · rw [if_neg h1]; exact h t
def marksV (φ : Nat → Option Nat) (ms : List Nat) : List Deferred := ms.map fun m => { target := .collected ((φ m).getD 0),args := #[] }
structure SimS (B : Nat) (φ : Nat → Option Nat) (G : Nat → Prop) (fr : Fr) (H : AHeap) (ms : List Nat) (n : Nat) (a : Act) (w : World) : Prop where
  sim : SimH φ G H w
  fr : FrRep (env φ G H w) fr a.tmps
  sz : a.tmps.size = n
  df : a.defers = marksV φ ms
  md : ∀ m ∈ ms,Dom H m
  bl : B ≤ H.length
def Reach (B : Nat) (n : Nat) (ms : List Nat) (K : Fr → AHeap → Prop) (φ : Nat → Option Nat) (G : Nat → Prop) (H : AHeap) (w : World) (a' : Act) (w' : World) : Prop :=
  ∃ fr' H' φ',K fr' H' ∧ SimS B φ' G fr' H' ms n a' w' ∧ StepR B φ H w φ' H' w'
theorem marksV_congr {φ φ' : Nat → Option Nat} {ms : List Nat} (h : ∀ m ∈ ms,φ' m = φ m) : marksV φ' ms = marksV φ ms := by
  unfold marksV
  exact List.map_congr_left fun m hm => by rw [h m hm]
section
variable {P : Program} {rd : Option Nat} {B : Nat} {φ : Nat → Option Nat} {G : Nat → Prop} {fr : Fr} {H : AHeap} {ms : List Nat} {n : Nat} {a : Act} {w : World}
theorem SimS.step (hs : SimS B φ G fr H ms n a w) {φ' : Nat → Option Nat} {H' : AHeap} {w' : World} (hn : Nx B G φ H w φ' H' w') {dst : Option Nat} (hd : dst.any (n ≤ ·) = false) {v : AVal} {rv : Value} (hv : Rep (env φ' G H' w') v rv) :
    SimS B φ' G (fr.putd dst v) H' ms n (a.put dst rv) w' := by
  refine ⟨hn.sim,?_,?_,?_,fun m hm => hn.le.dom m (hs.md m hm),hn.st.len hs.bl⟩
  · cases dst with
    | none => exact hs.fr.mono hn.le
    | some d => exact (hs.fr.mono hn.le).put (by simp at hd; rw [hs.sz]; omega) hv
  · cases dst <;> simp [Act.put,hs.sz]
  · have : (a.put dst rv).defers = a.defers := by cases dst <;> rfl
    rw [this,hs.df]
    exact (marksV_congr fun m hm => hn.le.fix m (hs.md m hm)).symm
theorem SimS.pass (hs : SimS B φ G fr H ms n a w) {dst : Option Nat} (hd : dst.any (n ≤ ·) = false) : SimS B φ G (fr.putd dst U) H ms n (a.put dst undef) w :=
  hs.step (.refl hs.sim) hd (.val _)
theorem SimS.tell (hs : SimS B φ G fr H ms n a w) {d : Nat} {v : AVal} (hr : Rep (env φ G H w) v (a.tmps.getD d undef)) : SimS B φ G (fr.put d v) H ms n a w :=
  ⟨hs.sim,hs.fr.tell hr,hs.sz,hs.df,hs.md,hs.bl⟩
theorem wpIn_of_opRun {o : Oper} (hd : ∀ c,o.op ≠ .defer c) {post : Value → World → Prop} {next : Act → World → Prop} {Q : Exit → Act → World → Prop} (h : OpRun P a.eval o w post) (hp : ∀ rv w',post rv w' → next (a.put o.dst rv) w') :
    o.wpIn (Fw rd) 0 P a w next Q := by
  refine ⟨fun _ _ => trivial,?_⟩
  rw [Oper.semAt_eq _ _ _ hd]
  unfold OpRun at h
  generalize (execOp a.eval o).run P w = r at h
  cases r with
  | halt x w' => exact h.elim
  | ok x w' => cases x <;> first | exact h.elim | exact hp _ _ h
theorem wpIn_of_inv {dst : Option Nat} {f : Operand} {args : Array Operand} {ts : Array TypeId} {ty : TypeId} {pos : String} {after : Array Edge} {guard : Option (Nat × Bool)} {post : Value → World → Prop} {next : Act → World → Prop} {Q : Exit → Act → World → Prop}
    (h : InvIn P (a.eval f) (args.map a.eval) w post) (hp : ∀ rv w',post rv w' → next (a.put dst rv) w') :
    (⟨dst,.call ⟨.value f,args,ts⟩,ty,pos,after,guard⟩ : Oper).wpIn (Fw rd) 0 P a w next Q := by
  refine ⟨fun _ _ => trivial,?_⟩
  rw [Oper.semAt_eq _ _ _ (fun c h => by cases h)]
  obtain ⟨d,hd,h⟩ := h
  have hrun : (execOp a.eval ⟨dst,.call ⟨.value f,args,ts⟩,ty,pos,after,guard⟩).run P w = (invoke d.target d.args).run P w := by
    show (do let d ← Deferred.ofValue (a.eval f) (args.map a.eval); invoke d.target d.args : Sem Next).run P w = _
    rw [Sem.run_bind,hd]; rfl
  rw [hrun]
  rcases h with ⟨g,as,hi,hc⟩ | ⟨l,g,tmps,as,bd,hi,hc⟩
  · rw [hi]
    refine ⟨fun h => by simp [Fw] at h,(calls_Fw hc).mono fun e w' ⟨rv,he,hr⟩ => ?_⟩
    subst he; exact hp _ _ hr
  · rw [hi]
    refine ⟨fun h => by simp [Fw] at h,(round_Fw hc).mono fun e w' ⟨rv,he,hr⟩ => ?_⟩
    subst he; exact hp _ _ hr
theorem trOp_defer {c : Call} {iop : IOp} {op : Op} (h : trOp P op = some iop) : op ≠ .defer c := by
  rintro rfl; cases h
theorem pushPl2 {i : Nat} {b c : Blk} (_ : H[i]? = some b) (_ : b ≠ .hole) : NewAt (H.set i .dead) H.length c (H.set i .dead ++ [c]) := by
  have := NewAt.push (H.set i .dead) c
  rwa [List.length_set] at this
theorem istep_sound {o : Oper} {ops : Array Oper} {i : IIns} (ht : trIns P n ops o = some i) (hs : SimS B φ G fr H ms n a w) {K : Fr → AHeap → Prop} (h : istep P i fr H K) {next : Act → World → Prop} {Q : Exit → Act → World → Prop}
    (hK : ∀ a' w',Reach B n ms K φ G H w a' w' → next a' w') : o.wpIn (Fw rd) 0 P a w next Q := by
  obtain ⟨iop,hop,ht⟩ := some_bind ht
  split at ht
  case isTrue => cases ht
  rename_i hdst
  have hdst' : o.dst.any (n ≤ ·) = false := by simpa using hdst
  have hi : i.op = iop ∧ i.dst = o.dst := by
    split at ht
    · simp at ht; subst ht; exact ⟨rfl,rfl⟩
    · obtain ⟨g,hg,ht⟩ := some_bind ht
      split at ht
      · cases ht
      · simp at ht; subst ht; exact ⟨rfl,rfl⟩
  obtain ⟨rfl,hid⟩ := hi
  have hρ : ORep (env φ G H w) fr a.eval := .of_frame hs.fr
  unfold istep at h
  split at h
  · rename_i f args hcall
    rw [hcall] at hop
    obtain ⟨dst,op,ty,pos,after,guard⟩ := o
    simp only at hop hid hdst'
    have hcls := tr_cls hop
    cases op with
    | call c =>
      obtain ⟨callee,rargs,ts⟩ := c
      cases callee with
      | value g =>
        simp only [trOp,Option.bind_eq_bind,Option.bind_eq_some_iff] at hop
        obtain ⟨i1,h1,i2,h2,hop⟩ := hop
        simp at hop
        obtain ⟨rfl,rfl⟩ := hop
        have hargs := trOs_rep hρ _ _ h2
        refine wpIn_of_inv (h φ G w (a.eval g) (rargs.map a.eval) hs.sim (hρ _ _ h1) (by simpa using hargs)) fun rv w' ⟨v,H',φ',hk,hsim,hst,hrep⟩ => ?_
        refine hK _ _ ⟨_,H',φ',hk,?_,hst.mono hs.bl (Nat.le_refl _)⟩
        rw [hid]
        refine hs.step ⟨hsim,hst.le,hst.mono hs.bl (Nat.le_refl _)⟩ hdst' hrep
      | invoke r m => cases hop
      | builtin b => exfalso; cases b <;> cases hcls
    | _ => exfalso; cases hcls
  · rename_i x hx
    rw [hx] at hop
    refine wpIn_of_opRun (fun c => trOp_defer hop) (mnext_run (B := B) hs.sim hρ hop h) fun rv w' ⟨v,H',hk,hn,hv⟩ => ?_
    refine hK _ _ ⟨_,_,φ,hk,?_,hn.st⟩
    rw [hid]; exact hs.step hn hdst' hv
  · split at h
    · rename_i p v hq
      refine wpIn_of_opRun (fun c => trOp_defer hop) (opq_run hs.sim hρ hop hq h.1) fun rv w' ⟨hw,hv⟩ => ?_
      subst hw
      refine hK _ _ ⟨_,H,φ,h.2,?_,.refl _ _ _ _⟩
      rw [hid]; exact hs.step (.refl hs.sim) hdst' hv
    · split at h
      · rename_i p mk cs hq
        refine wpIn_of_opRun (fun c => trOp_defer hop) (opa_run (B := B) hs.sim hρ hop hq h.1 (NewAt.push H _) hs.bl) fun rv w' ⟨φ',hn,hv⟩ => ?_
        refine hK _ _ ⟨_,_,φ',h.2,?_,hn.st⟩
        rw [hid]; exact hs.step hn hdst' hv
      · split at h
        · rename_i p v H' hq
          refine wpIn_of_opRun (fun c => trOp_defer hop) (opl_run (B := B) hs.sim hρ hop hq h.1 (fun b => NewAt.push H b) (fun i b c h1 h2 => pushPl2 h1 h2) hs.bl) fun rv w' ⟨φ',hn,hv⟩ => ?_
          refine hK _ _ ⟨_,_,φ',h.2,?_,hn.st⟩
          rw [hid]; exact hs.step hn hdst' hv
        · refine wpIn_of_opRun (fun c => trOp_defer hop) (opl2_run (B := B) hs.sim hρ hop h (fun i b c h1 h2 => pushPl2 h1 h2) hs.bl) fun rv w' ⟨v,H',φ',hk,hn,hv⟩ => ?_
          refine hK _ _ ⟨_,_,φ',hk,?_,hn.st⟩
          rw [hid]; exact hs.step hn hdst' hv
theorem wanted_none {o : Oper} {y : Nat → Option Bool} (h : o.guard = none) : Region.wanted o y = true := by unfold Region.wanted; rw [h]
theorem wanted_some {ops : Array Oper} {o : Oper} {j s : Nat} {b t : Bool} (hg : o.guard = some (j,b)) (hj : (ops[j]?).bind (·.dst) = some s) (hv : a.tmps.getD s undef = .bool t) : Region.wanted o (yielded ops a.tmps) = (t == b) := by
  unfold Region.wanted
  rw [hg]
  have : yielded ops a.tmps j = some t := by
    unfold yielded
    rw [hj]
    rw [Array.getD_eq_getD_getElem?] at hv
    cases hx : a.tmps[s]? with
    | none => rw [hx] at hv; simp [undef] at hv
    | some v => rw [hx] at hv; simp at hv; subst hv; simp [hx]
  simp [this]
theorem wanted_tup {ops : Array Oper} {o : Oper} {j s : Nat} {b : Bool} {cs : Array Value} (hg : o.guard = some (j,b)) (hj : (ops[j]?).bind (·.dst) = some s) (hv : a.tmps.getD s undef = .tuple cs) : Region.wanted o (yielded ops a.tmps) = false := by
  unfold Region.wanted
  rw [hg]
  have : yielded ops a.tmps j = none := by
    unfold yielded
    rw [hj]
    rw [Array.getD_eq_getD_getElem?] at hv
    cases hx : a.tmps[s]? with
    | none => simp [hx]
    | some v => rw [hx] at hv; simp at hv; subst hv; simp [hx]
  simp [this]
theorem iops_sound {ops : Array Oper} {K : Fr → AHeap → Prop} {Q : Exit → Act → World → Prop} : ∀ (os : List Oper) (l : List IIns) (i : Nat),os = ops.toList.drop i → trInss P n ops os = some l → ∀ {φ : Nat → Option Nat} {fr : Fr} {H : AHeap} {a : Act} {w : World},
    SimS B φ G fr H ms n a w → iops P l fr H K → (∀ a' w',Reach B n ms K φ G H w a' w' → Q .normal a' w') → wpOpsIn (Fw rd) 0 P ops Q (List.range' i os.length) a w
  | [],l,i,_,ht,φ,fr,H,a,w,hs,h,hQ => by
    simp [trInss] at ht; subst ht
    exact hQ _ _ ⟨fr,H,φ,h,hs,.refl _ _ _ _⟩
  | o :: os,l,i,ho,ht,φ,fr,H,a,w,hs,h,hQ => by
    obtain ⟨ii,hi,ht⟩ := some_bind ht
    obtain ⟨l',hl,ht⟩ := some_bind ht
    simp at ht; subst ht
    have hoi : ops[i]? = some o := by
      have : (ops.toList.drop i)[0]? = some o := by rw [← ho]; rfl
      rw [List.getElem?_drop] at this; simpa using this
    have hos : os = ops.toList.drop (i + 1) := by
      have := congrArg List.tail ho
      simpa [List.tail_drop] using this
    rw [List.length_cons,List.range'_succ]
    simp only [wpOpsIn,hoi]
    have next : ∀ {φ : Nat → Option Nat} {fr : Fr} {H : AHeap} {a : Act} {w : World},SimS B φ G fr H ms n a w → iops P l' fr H K → (∀ a' w',Reach B n ms K φ G H w a' w' → Q .normal a' w') → wpOpsIn (Fw rd) 0 P ops Q (List.range' (i + 1) os.length) a w :=
      fun hs h hQ => iops_sound os l' (i + 1) hos hl hs h hQ
    have doIt : ∀ {fr' : Fr},SimS B φ G fr' H ms n a w → istep P ii fr' H (fun fr H => iops P l' fr H K) → Oper.wpIn (Fw rd) 0 P o a w (wpOpsIn (Fw rd) 0 P ops Q (List.range' (i + 1) os.length)) Q := fun hs' h' =>
      istep_sound hi hs' h' fun a' w' ⟨fr2,H2,φ2,hk,hs2,hst⟩ => next hs2 hk fun a3 w3 ⟨fr3,H3,φ3,hk3,hs3,hst3⟩ => hQ _ _ ⟨fr3,H3,φ3,hk3,hs3,hst.trans hst3⟩
    have hi' := hi
    obtain ⟨iop,hop,hi'⟩ := some_bind hi'
    split at hi'
    case isTrue => cases hi'
    rename_i hdst
    have hdst' : o.dst.any (n ≤ ·) = false := by simpa using hdst
    split at hi'
    · rename_i hg
      simp at hi'; subst hi'
      rw [wanted_none hg,if_pos rfl]
      exact doIt hs h
    · rename_i j b hg
      obtain ⟨s,hj,hi'⟩ := some_bind hi'
      split at hi'
      case isTrue => cases hi'
      simp at hi'; subst hi'
      simp only [iops,iguard] at h
      split at h
      case h_3 => exact h.elim
      case h_2 cs hget =>
        have hv : a.tmps.getD s undef = .tuple cs := by
          have := hs.fr s
          rw [hget] at this
          exact this.inv_val
        rw [wanted_tup hg hj hv]
        simp only [Bool.false_eq_true,if_false]
        exact ⟨fun _ _ => trivial,next (hs.pass hdst') h hQ⟩
      rename_i t hget
      have hv : a.tmps.getD s undef = .bool t := by
        have := hs.fr s
        rw [hget] at this
        exact this.inv_val
      rw [wanted_some hg hj hv]
      by_cases htb : t = b
      · subst htb
        simp only [beq_self_eq_true,if_true]
        exact doIt (hs.tell (by rw [hv]; exact .val _)) (h.1 rfl)
      · have hnb : t = !b := by cases t <;> cases b <;> simp_all
        have : (t == b) = false := by simpa using htb
        rw [this]
        simp only [Bool.false_eq_true,if_false]
        refine ⟨fun _ _ => trivial,next ((hs.tell (d := s) (v := AVal.B (!b)) (by rw [hv,hnb]; exact .val _)).pass hdst') (h.2 hnb) hQ⟩
end
end Go.Abs
