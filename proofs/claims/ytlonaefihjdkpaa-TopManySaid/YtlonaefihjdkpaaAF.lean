/- Functions,and rounds of a range over a function: from what is asked of their code to what their calls do. -/
import Derived.Test.YtlonaefihjdkpaaA9
namespace Go.Abs
open AVal
inductive IRes where
  | tmp (t : Nat)
  | cell (ag : Bool) (k a : Nat)
def trRes (P : Program) : List ResultVar → Option (List IRes)
  | [] => some []
  | .tmp t :: r => do some (.tmp t :: (← trRes P r))
  | .cell a t :: r => do some (.cell (← tAgg P t) (← tSize P t) a :: (← trRes P r))
def resA (fr : Fr) (H : AHeap) : IRes → Option (Prop × AVal)
  | .tmp t => some (True,fr.get t)
  | .cell ag k a => loadA ag k (fr.get a) H
def resL (fr : Fr) (H : AHeap) : List IRes → Option (Prop × List AVal)
  | [] => some (True,[])
  | r :: rs => match resA fr H r,resL fr H rs with
    | some (p,v),some (q,vs) => some (p ∧ q,v :: vs)
    | _,_ => none
def retV : List AVal → AVal
  | [v] => v
  | vs => .tup vs
def entryFr : Nat → List AVal → Fr
  | _,[] => []
  | t,v :: r => (t,v) :: entryFr (t + 1) r
theorem entryFr_get : ∀ (args : List AVal) (s t : Nat),(entryFr s args).get t = if s ≤ t then args.getD (t - s) .any else .any
  | [],s,t => by simp [entryFr,Fr.get]
  | v :: r,s,t => by
    simp only [entryFr,Fr.get]
    by_cases h : s = t
    · subst h; simp
    · rw [if_neg h,entryFr_get r (s + 1) t]
      by_cases h2 : s ≤ t
      · have : t - s = (t - (s + 1)) + 1 := by omega
        rw [if_pos (by omega),if_pos h2,this]; simp
      · rw [if_neg (by omega),if_neg h2]
theorem entry_rep {E : Env} {args : List AVal} {rargs : Array Value} (h : CRep E args rargs) (k : Nat) : FrRep E (entryFr 0 args) (rargs ++ Array.replicate k undef) := by
  intro t
  rw [entryFr_get]
  simp only [Nat.zero_le,if_true,Nat.sub_zero]
  cases ht : args[t]? with
  | none => simp only [List.getD_eq_getElem?_getD,ht,Option.getD_none]; exact .any _
  | some v =>
    have hlt : t < rargs.size := by rw [h.1]; exact (List.getElem?_eq_some_iff.1 ht).1
    have h1 := h.2 t v ht
    have h2 : (rargs ++ Array.replicate k undef).getD t undef = rargs.getD t undef := by
      simp [Array.getElem?_append_left hlt]
    rw [h2]
    simpa [List.getD_eq_getElem?_getD,ht] using h1
def killM : List Nat → AHeap → Option AHeap
  | [],H => some H
  | m :: r,H => match H[m]? with
    | some .defs => killM r (H.set m .dead)
    | _ => none
section
variable {P : Program} {B : Nat} {φ : Nat → Option Nat} {G : Nat → Prop} {fr : Fr} {H : AHeap} {n : Nat} {a : Act} {w : World}
theorem results_run {fn : Func} {rs : List IRes} (ht : trRes P fn.results.toList = some rs) (hs : SimH φ G H w) {tmps : Array Value} (hf : FrRep (env φ G H w) fr tmps) {p : Prop} {vs : List AVal} (h : resL fr H rs = some (p,vs)) (hp : p) :
    ∃ rv,(results fn tmps).run P w = .ok rv w ∧ Rep (env φ G H w) (retV vs) rv := by
  have core : ∀ (l : List ResultVar) (rs : List IRes) (p : Prop) (vs : List AVal),trRes P l = some rs → resL fr H rs = some (p,vs) → p →
      ∃ ws : List Value,((l.mapM fun | .tmp t => (pure (tmps.getD t undef) : Sem Value) | .cell a t => do loadVar t (← asAddr (tmps.getD a undef))) : Sem (List Value)).run P w = .ok ws w ∧ ws.length = vs.length ∧ ∀ (j : Nat) u,vs[j]? = some u → Rep (env φ G H w) u (ws.toArray.getD j undef) := by
    intro l
    induction l with
    | nil =>
      intro rs p vs h1 h2 _
      simp [trRes] at h1; subst h1
      simp [resL] at h2
      obtain ⟨_,rfl⟩ := h2
      exact ⟨[],by simp,rfl,fun j u hu => by simp at hu⟩
    | cons r l ih =>
      intro rs p vs h1 h2 hp
      have one : ∀ (ir : IRes) (rs' : List IRes),trRes P l = some rs' → resL fr H (ir :: rs') = some (p,vs) →
          (∀ q v,resA fr H ir = some (q,v) → q → ∃ rv,(match r with | .tmp t => (pure (tmps.getD t undef) : Sem Value) | .cell a t => do loadVar t (← asAddr (tmps.getD a undef))).run P w = .ok rv w ∧ Rep (env φ G H w) v rv) →
          ∃ ws : List Value,(((r :: l).mapM fun | .tmp t => (pure (tmps.getD t undef) : Sem Value) | .cell a t => do loadVar t (← asAddr (tmps.getD a undef))) : Sem (List Value)).run P w = .ok ws w ∧ ws.length = vs.length ∧ ∀ (j : Nat) u,vs[j]? = some u → Rep (env φ G H w) u (ws.toArray.getD j undef) := by
        intro ir rs' hl hr hone
        simp only [resL] at hr
        split at hr
        · rename_i q v q2 vs2 e1 e2
          simp only [Option.some.injEq,Prod.mk.injEq] at hr
          obtain ⟨rfl,rfl⟩ := hr
          obtain ⟨rv,hrv,hrep⟩ := hone q v e1 hp.1
          obtain ⟨ws,hws,hlen,hreps⟩ := ih rs' q2 vs2 hl e2 hp.2
          refine ⟨rv :: ws,?_,by simp [hlen],fun j u hu => ?_⟩
          · rw [List.mapM_cons,Sem.run_bind]
            have hrv' := hrv
            cases r <;> (simp only at hrv'; rw [hrv']; simp only [Result.andThen]; rw [Sem.run_bind,hws]; rfl)
          · cases j with
            | zero => simp at hu; subst hu; simpa using hrep
            | succ j => simp at hu; simpa using hreps j u hu
        · cases hr
      cases r with
      | tmp t =>
        obtain ⟨rs',hl,h1⟩ := some_bind h1
        simp at h1; subst h1
        exact one _ _ hl h2 fun q v hq _ => by
          simp [resA] at hq
          obtain ⟨_,rfl⟩ := hq
          exact ⟨_,by simp,hf t⟩
      | cell ad t =>
        obtain ⟨ag,hag,h1⟩ := some_bind h1
        obtain ⟨k,hk,h1⟩ := some_bind h1
        obtain ⟨rs',hl,h1⟩ := some_bind h1
        simp at h1; subst h1
        exact one _ _ hl h2 fun q v hq hqp => by
          have h9 := load_sound hs hag hk hq hqp (hf ad)
          have hpt : ∃ ad',tmps.getD ad undef = .pointer (some ad') := by
            have hfa := hf ad
            simp only [resA,loadA] at hq
            split at hq
            · rename_i cs hv; rw [hv] at hfa; obtain ⟨b,off,he,_⟩ := hfa.inv_rp; exact ⟨_,he⟩
            · rename_i i off hv; rw [hv] at hfa; obtain ⟨r,he,_⟩ := hfa.inv_ptr; exact ⟨_,he⟩
            · cases hq
          obtain ⟨ad',he⟩ := hpt
          rw [he] at h9
          simp only [he]
          simpa [Instr.loadAt,Instr.sureAddr,asAddr,go_sem] using h9
  obtain ⟨ws,hws,hlen,hreps⟩ := core fn.results.toList rs p vs ht h hp
  have hmap : ((fn.results.mapM fun | .tmp t => (pure (tmps.getD t undef) : Sem Value) | .cell a t => do loadVar t (← asAddr (tmps.getD a undef))) : Sem (Array Value)).run P w = .ok ws.toArray w := by
    rw [show fn.results = fn.results.toList.toArray by simp,List.mapM_toArray]
    rw [map_eq_pure_bind,Sem.run_bind,hws]; rfl
  have e : (results fn tmps).run P w = (Result.ok ws.toArray w).andThen fun a w' => Sem.run P (pure (if h : a.size = 1 then a[0] else Value.tuple a)) w' := by
    rw [← hmap]; exact Sem.run_bind ..
  rw [e]
  simp only [Result.andThen]
  match vs,ws,hlen,hreps with
  | [],[],_,hr => exact ⟨_,rfl,.tup _ _ rfl hr⟩
  | [v],[x],_,hr => exact ⟨_,rfl,by simpa [retV] using hr 0 v rfl⟩
  | v :: v2 :: vs,x :: x2 :: ws,hl,hr => exact ⟨.tuple (x :: x2 :: ws).toArray,by simp,.tup _ _ (by simpa using hl) hr⟩
def retA (B : Nat) (rs : List IRes) (R : AVal → AHeap → Prop) (e : Ex) (fr : Fr) (H : AHeap) (ms : List Nat) : Prop :=
  (e = .norm ∨ e = .ret) ∧ match killM ms H with
  | some H' => match resL fr H' rs with
    | some (p,vs) => p ∧ ∃ ρ v' H'',Wk B [] ρ [(0,retV vs)] H' [(0,v')] H'' ∧ R v' H''
    | none => False
  | none => False
theorem Wk.rep {ρ : List (Option Nat)} {v v' : AVal} {H' : AHeap} (h : Wk B [] ρ [(0,v)] H [(0,v')] H') (hs : SimH φ G H w) (hB : B ≤ H.length) {rv : Value} (hr : Rep (env φ G H w) v rv) :
    ∃ φ',SimH φ' G H' w ∧ StepR B φ H w φ' H' w ∧ Rep (env φ' G H' w) v' rv := by
  have hs0 : SimS B φ G [(0,v)] H [] 1 { tmps := #[rv],defers := [] } w := by
    refine ⟨hs,fun t => ?_,rfl,rfl,fun _ hm => (by cases hm),hB⟩
    cases t with
    | zero => simpa [Fr.get] using hr
    | succ t => simp [Fr.get]; exact .any _
  obtain ⟨h1,h2⟩ := h.sound hs0
  exact ⟨_,h1.sim,h2,by simpa [Fr.get] using h1.fr 0⟩
theorem leaves_marks {fn : Func} {rs : List IRes} (ht : trRes P fn.results.toList = some rs) {R : Ending → World → Prop} {tmps : Array Value} {p : Prop} {vs : List AVal} {H1 : AHeap} :
    ∀ (ms : List Nat) {H : AHeap} {w : World},killM ms H = some H1 → SimH φ G H w → FrRep (env φ G H w) fr tmps → B ≤ H.length → resL fr H1 rs = some (p,vs) → p →
      (∀ w1 rv,SimH φ G H1 w1 → StepR B φ H w φ H1 w1 → Rep (env φ G H1 w1) (retV vs) rv → R (.returned rv) w1) → LeavesInM Fence.wide 0 P fn tmps R (marksV φ ms) .returning w
  | [],H,w,hk,hs,hf,hB,hr,hp,hR => by
    simp [killM] at hk; subst hk
    obtain ⟨rv,h1,h2⟩ := results_run ht hs hf hr hp
    exact ⟨rv,h1,hR w rv hs (.refl _ _ _ _) h2⟩
  | m :: ms,H,w,hk,hs,hf,hB,hr,hp,hR => by
    simp only [killM] at hk
    split at hk
    case h_2 => cases hk
    rename_i hm
    have hblk := hs.blk m _ hm
    obtain ⟨r,hφr,hobj⟩ := hblk
    have hn := nx_obj (B := B) (o' := .deferred none) hs hm rfl hφr hobj (fun _ _ _ h => by cases h) (b' := .dead) (by simp) (fun _ _ _ => trivial)
    refine ⟨by simp,.inl ⟨r,_,by simp [hφr],run_takeDeferred hobj,?_⟩⟩
    exact leaves_marks ht ms hk hn.sim (hf.mono hn.le) (hn.st.len hB) hr hp fun w1 rv h1 h2 h3 => hR w1 rv h1 (hn.st.trans h2) h3
end
theorem run_callFunc_enter {P : Program} {f : FuncId} {fn : Func} {c : Code} (hf : P.funcs[f]? = some fn) (hb : fn.body = some c) (hn : (fn.name == "runtime.NumGoroutine") = false) (as : Array Value) (w : World) : (callFunc f as).run P w = .ok (.enter f as) w := by
  have h1 : fn.name ≠ "runtime.NumGoroutine" := by simpa using hn
  simp [callFunc, go_sem, hf, hb, h1]
theorem Spec.of_iwp {X : List (Nat × Nat)} {P : Program} (hm : P.follows .mixedOrders = true) {f : FuncId} {fn : Func} {c : Code} {ic : ICode} {rs : List IRes} (hf : P.funcs[f]? = some fn) (hb : fn.body = some c) (hn : (fn.name == "runtime.NumGoroutine") = false)
    (ht : trCodeX X P fn.ntmps c = some (strip ic)) (hr : trRes P fn.results.toList = some rs) {args : List AVal} (ha : args.length ≤ fn.ntmps) {H : AHeap} {R : AVal → AHeap → Prop}
    (h : iwp P H.length fn.ntmps true ic (entryFr 0 args) H [] (retA H.length rs R)) : Spec P f args H R := by
  refine ⟨run_callFunc_enter hf hb hn, fun φ G w rargs hs hargs => ?_⟩
  refine callsIn_of_wp_marks hf hb trivial ?_
  have hw := iwp_sound hm (rd := none) (fun _ => rfl) (Tr.strip (Tr.of c _ ht)) h φ G w { tmps := rargs ++ Array.replicate (fn.ntmps - rargs.size) undef, defers := [] }
    ⟨hs, entry_rep hargs _, by have := hargs.1; simp; omega, rfl, fun _ hm => (by cases hm), Nat.le_refl _⟩
  rw [Fw_none] at hw
  refine wpIn_mono hw fun e a' w' ⟨ex, he, fr', H', ms', φ', hq, hs', hst⟩ => ?_
  obtain ⟨hex, hq⟩ := hq
  split at hq
  case h_2 => exact hq.elim
  rename_i H1 hk
  split at hq
  case h_2 => exact hq.elim
  rename_i p vs hrs
  obtain ⟨hp, ρ, v', H2, hwk, hR⟩ := hq
  have fin : LeavesInM Fence.wide 0 P fn a'.tmps (fun e w' => ∃ rv, e = .returned rv ∧ After R φ G H w rv w') a'.defers .returning w' := by
    rw [hs'.df]
    refine leaves_marks (B := H.length) hr ms' hk hs'.sim hs'.fr hs'.bl hrs hp fun w1 rv h1 h2 h3 => ⟨rv, rfl, ?_⟩
    obtain ⟨φ2, k1, k2, k3⟩ := hwk.rep h1 (h2.len hs'.bl) h3
    exact ⟨v', H2, φ2, hR, k1, (hst.trans h2).trans k2, k3⟩
  cases e with
  | normal => exact fin
  | ret => exact fin
  | exit id => cases he; rcases hex with h | h <;> cases h
  | goto l => cases he
  | panic c => cases he
  | outgrown => cases he
/-! ### Rounds -/
def putArgs (fr : Fr) : List Nat → List AVal → Fr
  | p :: ps,v :: vs => putArgs (fr.put p v) ps vs
  | _,_ => fr
theorem putArgs_rep {E : Env} : ∀ (ps : List Nat) (args : List AVal) (rargs : List Value) (fr : Fr) (tmps : Array Value),FrRep E fr tmps → args.length = ps.length → rargs.length = ps.length → (∀ p ∈ ps,p < tmps.size) →
    (∀ (j : Nat) u,args[j]? = some u → Rep E u (rargs.toArray.getD j undef)) → FrRep E (putArgs fr ps args) ((ps.zip rargs).foldl (fun t (p,v) => t.setIfInBounds p v) tmps) ∧ ((ps.zip rargs).foldl (fun t (p,v) => t.setIfInBounds p v) tmps).size = tmps.size
  | [],args,rargs,fr,tmps,hf,_,_,_,_ => by simp [putArgs]; exact hf
  | p :: ps,[],rargs,fr,tmps,hf,h1,_,_,_ => by simp at h1
  | p :: ps,v :: args,[],fr,tmps,hf,_,h2,_,_ => by simp at h2
  | p :: ps,v :: args,x :: rargs,fr,tmps,hf,h1,h2,hp,hr => by
    simp only [putArgs,List.zip_cons_cons,List.foldl_cons]
    have := putArgs_rep ps args rargs (fr.put p v) (tmps.setIfInBounds p x) (hf.put (hp p (by simp)) (by simpa using hr 0 v rfl)) (by simpa using h1) (by simpa using h2) (fun q hq => by simpa using hp q (by simp [hq]))
      (fun j u hu => by simpa using hr (j + 1) u (by simpa using hu))
    simpa using this
def exJump : Ex → Option Code
  | .norm => none
  | .exit id => some (.exit id)
  | .ret => some .ret
theorem CallV.yld {X X' : List (Nat × Nat)} {P : Program} (hm : P.follows .mixedOrders = true) {H : AHeap} {L : Nat} {fr : Fr} {n : Nat} {ps : List Nat} {as bd : Code} {ias ibd : ICode} (hL : H[L]? = some (.loop .ready none fr n ps.toArray as bd))
    (ta : trCodeX X P n as = some (strip ias)) (tb : trCodeX X' P n bd = some (strip ibd)) {args : List AVal} (hlen : args.length = ps.length) (hps : ∀ p ∈ ps,p < n) {R : AVal → AHeap → Prop}
    (h : iwp P H.length n false ias (putArgs fr ps args) H [] fun e fr1 H1 ms1 => e = .norm ∧ ms1 = [] ∧ H1[L]? = some (.loop .ready none fr n ps.toArray as bd) ∧
      iwp P H.length n false ibd fr1 (H1.set L (.loop .busy none fr n ps.toArray as bd)) [] fun e _ H2 ms2 => ms2 = [] ∧ H2[L]? = some (.loop .busy none fr n ps.toArray as bd) ∧
        ∃ ρ H3,Wk H.length [] ρ [] (H2.set L (.loop (if (exJump e).isNone then .ready else .done) (exJump e) fr n ps.toArray as bd)) [] H3 ∧ R (B (exJump e).isNone) H3) :
    CallV P (.yld L) args H R := by
  intro φ G w rf rargs hs hf ha
  obtain ⟨r,rfl,hD,hφ⟩ : ∃ r,rf = .func (.yield r) #[] #[] ∧ Dom H L ∧ φ L = some r := by
    cases hf with
    | yld i r hi h => exact ⟨r,rfl,hi,h⟩
  have hblk := hs.blk L _ hL
  rw [hφ] at hblk
  obtain ⟨r',fn,tmps,D,hr',hobj,hsz,hfr⟩ := hblk
  cases hr'
  have hobj : w.heap[r]? = some (.loop { state := .ready,pending := none,fn,tmps,params := ps.toArray,assign := as,body := bd,defers := D }) := hobj
  refine ⟨{ target := .fn (.yield r) #[],args := #[] ++ rargs },by simp [Deferred.ofValue,go_sem],.inr ⟨r,fn,(ps.toArray.zip rargs).foldl (fun t (p,v) => t.setIfInBounds p v) tmps,as,bd,?_,?_⟩⟩
  · have := run_yield (P := P) (args := rargs) hobj (by simp; rw [ha.1,hlen])
    simpa [invoke] using this
  · refine roundIn_of_wpIn trivial ?_
    have hzip : (ps.toArray.zip rargs).foldl (fun t (p,v) => t.setIfInBounds p v) tmps = (ps.zip rargs.toList).foldl (fun t (p,v) => t.setIfInBounds p v) tmps := by
      rw [← Array.foldl_toList]; simp
    have hput := putArgs_rep (E := env φ G H w) ps args rargs.toList fr tmps hfr hlen (by rw [← hlen,← ha.1]; simp) (fun p hp => by rw [hsz]; exact hps p hp) (fun j u hu => by simpa using ha.2 j u hu)
    rw [← hzip] at hput
    have hs0 : SimS H.length φ G (putArgs fr ps args) H [] n { tmps := (ps.toArray.zip rargs).foldl (fun t (p,v) => t.setIfInBounds p v) tmps,defers := [] } w :=
      ⟨hs,hput.1,by rw [hput.2]; exact hsz,rfl,fun _ hm => (by cases hm),Nat.le_refl _⟩
    have hw := iwp_sound hm (rd := some r) (fun h => by cases h) (Tr.strip (Tr.of as _ ta)) h φ G w _ hs0
    refine wpIn_mono hw fun e a1 w1 ⟨ex,he,fr1,H1,ms1,φ1,⟨hq1,hq2,hq3,hq4⟩,hs1,hst1⟩ => ?_
    subst hq1 hq2
    cases e <;> first | (simp [exOf] at he; done) | skip
    have hφ1 : φ1 L = some r := (hst1.fix L (Dom.lt hD)).trans hφ
    have hblk1 := hs1.sim.blk L _ hq3
    rw [hφ1] at hblk1
    obtain ⟨r',fn1,tmps1,D1,hr',hobj1,hsz1,hfr1⟩ := hblk1
    cases hr'
    have hn1 := nx_obj (B := H.length) (o' := .loop { state := .busy,pending := none,fn := fn1,tmps := tmps1,params := ps.toArray,assign := as,body := bd,defers := D1 }) hs1.sim hq3 rfl hφ1 hobj1 (fun _ _ _ h => by cases h) (b' := .loop .busy none fr n ps.toArray as bd) (by simp)
      (fun E hle hw => ⟨r,fn1,tmps1,D1,rfl,by rw [hw]; exact World.putObj_heap_same (Array.getElem?_eq_some_iff.1 hobj1).1,hsz1,hfr1.mono hle⟩)
    refine ⟨_,run_beginRound hobj1 rfl,?_⟩
    have hs2 : SimS H.length φ1 G fr1 (H1.set L (.loop .busy none fr n ps.toArray as bd)) [] n a1 _ :=
      ⟨hn1.sim,hs1.fr.mono hn1.le,hs1.sz,hs1.df,fun _ hm => (by cases hm),hn1.st.len hs1.bl⟩
    have hw2 := iwp_sound hm (rd := some r) (fun h => by cases h) (Tr.strip (Tr.of bd _ tb)) hq4 φ1 G _ _ hs2
    refine wpIn_mono hw2 fun e a2 w2 ⟨ex,he,fr2,H2,ms2,φ2,⟨hms,hl2,ρ,H3,hwk,hR⟩,hs3,hst3⟩ => ?_
    have hφ2 : φ2 L = some r := (hst3.fix L (Dom.lt hD)).trans hφ1
    have hblk2 := hs3.sim.blk L _ hl2
    rw [hφ2] at hblk2
    obtain ⟨r',fn2,tmps2,D2,hr',hobj2,hsz2,hfr2⟩ := hblk2
    cases hr'
    have hn2 := nx_obj (B := H.length) (o' := .loop { state := if (exJump ex).isNone then .ready else .done,pending := exJump ex,fn := fn2,tmps := tmps2,params := ps.toArray,assign := as,body := bd,defers := D2 }) hs3.sim hl2 rfl hφ2 hobj2 (fun _ _ _ h => by cases h)
      (b' := .loop (if (exJump ex).isNone then .ready else .done) (exJump ex) fr n ps.toArray as bd) (by simp)
      (fun E hle hw => ⟨r,fn2,tmps2,D2,rfl,by rw [hw]; exact World.putObj_heap_same (Array.getElem?_eq_some_iff.1 hobj2).1,hsz2,hfr2.mono hle⟩)
    have hend := run_endRound (P := P) (exJump ex) hobj2
    have hs4 : SimS H.length φ2 G [] _ [] n a2 _ := ⟨hn2.sim,fun t => .any _,hs3.sz,by rw [hs3.df,hms],fun _ hm => (by cases hm),hn2.st.len hs3.bl⟩
    obtain ⟨k1,k2⟩ := hwk.sound hs4
    have hafter : After R φ G H w (.bool (exJump ex).isNone) (w2.putObj r (.loop { state := if (exJump ex).isNone then .ready else .done,pending := exJump ex,fn := fn2,tmps := tmps2,params := ps.toArray,assign := as,body := bd,defers := D2 })) :=
      ⟨B (exJump ex).isNone,H3,_,hR,k1.sim,(((hst1.trans hn1.st).trans hst3).trans hn2.st).trans k2,.val _⟩
    cases e with
    | normal => cases he; exact ⟨_,_,hend,_,rfl,hafter⟩
    | ret => cases he; exact ⟨_,_,hend,_,rfl,hafter⟩
    | exit id => cases he; exact ⟨_,_,hend,_,rfl,hafter⟩
    | goto l => cases he
    | panic c => cases he
    | outgrown => cases he
end Go.Abs
