/- Ranges over functions,walked; states kept as they are; Some of what is owned is given away,the rest stays. -/
import Derived.Test.YtlonaefihjdkpaaAG
namespace Go.Abs
open AVal
def rangesOf : Code → List (Code × Code)
  | .seq a b => rangesOf a ++ rangesOf b
  | .cond _ a b => rangesOf a ++ rangesOf b
  | .block _ a => rangesOf a
  | .scope a => rangesOf a
  | .loop a => rangesOf a
  | .rangeFunc _ _ as bd => [(as,bd)]
  | _ => []
def asOf (f : Func) (k : Nat) : Code := match f.body with
  | some c => ((rangesOf c).getD k (.skip,.skip)).1
  | none => .skip
def bdOf (f : Func) (k : Nat) : Code := match f.body with
  | some c => ((rangesOf c).getD k (.skip,.skip)).2
  | none => .skip
def vid (B : Nat) : Nat → AVal → Bool
  | 0,v => match v with
    | .any => true
    | _ => false
  | d + 1,v => match v with
    | .any => true
    | .val _ => true
    | .sl _ _ xs => bndL 0 xs
    | .rp cs => bndL 0 cs
    | .own i _ _ _ _ => decide (i < B)
    | .ptr i _ => decide (i < B)
    | .yld i => decide (i < B)
    | .mp i => decide (i < B)
    | .fn _ a b => a.all (vid B d) && b.all (vid B d)
    | .agg cs => bndL 0 cs || cs.all (vid B d)
    | .tup vs => vs.all (vid B d)
def idρ (B : Nat) : List (Option Nat) := (List.range B).map some
theorem idρ_len (B : Nat) : (idρ B).length = B := by simp [idρ]
theorem idρ_get {B i : Nat} (h : i < B) : ((idρ B)[i]?).join = some i := by simp [idρ,h]
theorem idρ_none {B i : Nat} (h : ¬ i < B) : ((idρ B)[i]?).join = none := by simp [idρ,h]
theorem vid_vle {B : Nat} {H : AHeap} {img : List Nat} : ∀ (d : Nat) (v : AVal),vid B d v = true → vle H (idρ B) img d v v
  | 0,v,h => by cases v <;> first | rfl | (exact absurd h (by simp [vid]))
  | d + 1,v,h => by
    have all : ∀ xs : List AVal,xs.all (vid B d) = true → vle.vleL H (idρ B) img d xs xs := by
      intro xs
      induction xs with
      | nil => intro _; trivial
      | cons a r ih =>
        intro h
        rw [List.all_cons,Bool.and_eq_true] at h
        exact ⟨vid_vle d a h.1,ih h.2⟩
    cases v with
    | any => trivial
    | val v => rfl
    | sl nn t xs => exact ⟨h,fun h => h,fun h => h,rfl⟩
    | rp cs => exact ⟨h,rfl⟩
    | own i off len lb k =>
      have h : i < B := of_decide_eq_true h
      exact ⟨by rw [idρ_len]; exact h,idρ_get h,rfl,rfl,Nat.le_refl _,rfl⟩
    | ptr i off =>
      have h : i < B := of_decide_eq_true h
      exact ⟨by rw [idρ_len]; exact h,idρ_get h,rfl⟩
    | yld i =>
      have h : i < B := of_decide_eq_true h
      exact ⟨by rw [idρ_len]; exact h,idρ_get h⟩
    | mp i =>
      have h : i < B := of_decide_eq_true h
      exact ⟨by rw [idρ_len]; exact h,idρ_get h⟩
    | fn f a b =>
      simp only [vid,Bool.and_eq_true] at h
      exact ⟨rfl,all a h.1,all b h.2⟩
    | agg cs =>
      simp only [vid,Bool.or_eq_true] at h
      exact h.imp (fun h => ⟨rfl,h⟩) (all cs)
    | tup vs => exact all vs h
def blkOk (B : Nat) : Blk → Bool
  | .hole => false
  | .dead => true
  | .cells cs => bndL 0 cs || cs.all (vid B 2)
  | .defs => true
  | .map es => es.all fun p => p.1.bnd 0 && p.2.bnd 0
  | .iter m _ _ => decide (m < B)
  | .loop _ _ fr _ _ _ _ => fr.all fun p => p.2.bnd B
theorem fr_bnd {B : Nat} : ∀ {fr : Fr},(fr.all fun p => p.2.bnd B) = true → ∀ t,(Fr.get fr t).bnd B = true
  | [],_,_ => rfl
  | (k,v) :: r,h,t => by
    rw [List.all_cons,Bool.and_eq_true] at h
    unfold Fr.get
    split
    · exact h.1
    · exact fr_bnd h.2 t
theorem hle_id {B : Nat} {H : AHeap} {img : List Nat} : ∀ (L : AHeap) (i : Nat),(∀ (k : Nat) b,L[k]? = some b → H[i + k]? = some b ∧ blkOk B b = true ∧ i + k < B) → hle B H (idρ B) img i L
  | [],_,_ => trivial
  | b :: r,i,h => by
    obtain ⟨h1,h2,h3⟩ := h 0 b rfl
    rw [Nat.add_zero] at h1 h3
    refine ⟨?_,hle_id r (i + 1) fun k c hk => ?_⟩
    · cases b with
      | hole => cases h2
      | dead => trivial
      | cells cs =>
        simp only [idρ_get h3,h1]
        simp only [blkOk,Bool.or_eq_true] at h2
        exact h2.imp (fun h => ⟨rfl,h⟩) fun h => by
          have all : ∀ xs : List AVal,xs.all (vid B 2) = true → vle.vleL H (idρ B) img 2 xs xs := by
            intro xs
            induction xs with
            | nil => intro _; trivial
            | cons a r ih =>
              intro h
              rw [List.all_cons,Bool.and_eq_true] at h
              exact ⟨vid_vle 2 a h.1,ih h.2⟩
          exact all cs h
      | defs => exact ⟨idρ_get h3,h1⟩
      | map es => exact ⟨h2,by simp only [idρ_get h3]; exact h1⟩
      | iter m n' seen =>
        have hm : m < B := of_decide_eq_true h2
        exact ⟨by rw [idρ_len]; exact hm,by simp only [idρ_get h3,idρ_get hm]; exact h1⟩
      | loop st pend fr n ps as bd => exact ⟨h3,h1,fr_bnd h2⟩
    · have := h (k + 1) c (by simpa using hk)
      rw [show i + 1 + k = i + (k + 1) by omega]; exact this
theorem imgs_id {B : Nat} : ∀ (L : AHeap) (s : Nat),(∀ j ∈ imgs (idρ B) s L,s ≤ j) ∧ (imgs (idρ B) s L).Nodup
  | [],s => by simp [imgs]
  | b :: r,s => by
    obtain ⟨h1,h2⟩ := imgs_id (B := B) r (s + 1)
    unfold imgs
    by_cases ha : b.alive = true
    · rw [if_pos ha]
      by_cases hs : s < B
      · rw [idρ_get hs]
        simp only [List.mem_cons,forall_eq_or_imp,Nat.le_refl,true_and,List.nodup_cons]
        exact ⟨fun j hj => by have := h1 j hj; omega,fun hj => by have := h1 s hj; omega,h2⟩
      · rw [idρ_none hs]
        exact ⟨fun j hj => by have := h1 j hj; omega,h2⟩
    · rw [if_neg ha]
      exact ⟨fun j hj => by have := h1 j hj; omega,h2⟩
theorem fle_id {B : Nat} {H : AHeap} {img : List Nat} {fr : Fr} : ∀ {fr' : Fr},(∀ p ∈ fr',fr.get p.1 = p.2 ∧ vid B 3 p.2 = true) → fle H (idρ B) img fr fr'
  | [],_ => trivial
  | (t,v) :: r,h => by
    obtain ⟨h1,h2⟩ := h (t,v) (by simp)
    refine ⟨?_,fle_id fun p hp => h p (by simp [hp])⟩
    show vle H (idρ B) img 3 (fr.get t) v
    rw [h1]
    exact vid_vle 3 v h2
theorem Wk.same {B : Nat} {H0 H1 : AHeap} (hB : H0.length = B) (hok : ∀ b ∈ H0,blkOk B b = true) {fr fr' : Fr} (hf : ∀ p ∈ fr',fr.get p.1 = p.2 ∧ vid B 3 p.2 = true) : Wk B [] (idρ B) fr (H0 ++ H1) fr' H0 :=
  ⟨by rw [idρ_len,hB],fun i hi => idρ_get hi,(imgs_id H0 0).2,hle_id H0 0 fun k b hk => by
    have hk' := (List.getElem?_eq_some_iff.1 hk).1
    exact ⟨by rw [Nat.zero_add,List.getElem?_append_left hk']; exact hk,hok b (List.mem_of_getElem? hk),by omega⟩,fle_id hf,fun m hm => by cases hm⟩
theorem app_get {α : Type} (a l : List α) (k : Nat) : (a ++ l)[a.length + k]? = l[k]? := by rw [List.getElem?_append_right (by omega)]; congr 1; omega
theorem app_get0 {α : Type} (a l : List α) : (a ++ l)[a.length]? = l[0]? := app_get a l 0
theorem app_set {α : Type} (a l : List α) (k : Nat) (x : α) : (a ++ l).set (a.length + k) x = a ++ l.set k x := by rw [List.set_append_right _ _ (by omega)]; congr 2; omega
theorem app_set0 {α : Type} (a l : List α) (x : α) : (a ++ l).set a.length x = a ++ l.set 0 x := app_set a l 0 x
section
variable {x : Cx} {Q : QT} {ks : List Kont} {fr : Fr} {H : AHeap} {ms : List Nat}
theorem W_range {f : IOpd} {ps : List Nat} {as bd : Code} {g : FuncId} {cap : List AVal} (hrg : x.rg = true) (hf : f.ev fr = .fn (.func g) [] cap)
    (h : Spec x.P g (.yld (H.length + 1) :: cap) (H ++ [.defs,.loop .ready none fr x.n ps.toArray as bd]) fun _ H' =>
      ∃ st pend,H'[H.length + 1]? = some (.loop st pend fr x.n ps.toArray as bd) ∧ st ≠ .busy ∧ afterR pend fr (H'.set (H.length + 1) .dead) (H.length :: ms) fun e fr H ms => KQ x Q e ks fr H ms) :
    W x Q (.range f ps as bd) ks fr H ms := ⟨hrg,g,cap,hf,h⟩
end
theorem CallV.yldW {X X' : List (Nat × Nat)} {P : Program} (hm : P.follows .mixedOrders = true) {H : AHeap} {L : Nat} {fr : Fr} {n : Nat} {ps : List Nat} {as bd : Code} {ias ibd : ICode} (hL : H[L]? = some (.loop .ready none fr n ps.toArray as bd))
    (ta : trCodeX X P n as = some (strip ias)) (tb : trCodeX X' P n bd = some (strip ibd)) {args : List AVal} (hlen : args.length = ps.length) (hps : ∀ p ∈ ps,p < n) {R : AVal → AHeap → Prop}
    (h : W ⟨P,H.length,n,false⟩ (fun e fr1 H1 ms1 => e = .norm ∧ ms1 = [] ∧ H1[L]? = some (.loop .ready none fr n ps.toArray as bd) ∧
      W ⟨P,H.length,n,false⟩ (fun e _ H2 ms2 => ms2 = [] ∧ H2[L]? = some (.loop .busy none fr n ps.toArray as bd) ∧
        ∃ ρ H3,Wk H.length [] ρ [] (H2.set L (.loop (if (exJump e).isNone then .ready else .done) (exJump e) fr n ps.toArray as bd)) [] H3 ∧ R (B (exJump e).isNone) H3) ibd [] fr1 (H1.set L (.loop .busy none fr n ps.toArray as bd)) []) ias [] (putArgs fr ps args) H []) :
    CallV P (.yld L) args H R := CallV.yld hm hL ta tb hlen hps h
end Go.Abs
namespace Go.Abs
open AVal
section
variable {P : Program}
end
section
variable {P : Program}
theorem Rep.int_inv {E : Env} {z : Int} {v : Value} (h : Rep E (I z) v) : v = .int .i64 z := by
  cases h; rfl
theorem Spec.lendInts {f : FuncId} {args args' : List AVal} {lb : Nat} {xs : List Int} (h : Spec P f args' [] fun v' H' => v' = .own 0 0 xs.length lb 1 ∧ H' = [.cells (mI xs)]) {H : AHeap} (ha : vle.vleL H [] [] 3 args args') :
    Spec P f args H fun v' H' => v' = .sl false false (mI xs) ∧ H' = H := by
  refine ⟨h.1,fun φ G w rargs hs hr => ?_⟩
  have hE : WkE φ G H [] w [] := ⟨hs,rfl,fun i => by simp,fun i b hi => by simp at hi,List.nodup_nil⟩
  have hs0 : SimH (wkφ φ []) G [] w := ⟨hs.glt,fun i _ b _ _ hi => by simp at hi,fun i b r hi => by simp at hi,fun i b hi => by simp at hi⟩
  obtain ⟨hlen,hget⟩ := vleL_get ha
  have hc : CRep (env (wkφ φ []) G [] w) args' rargs := ⟨by rw [← hlen]; exact hr.1,fun j u hu => by
    have hj : j < args.length := by rw [hlen]; exact (List.getElem?_eq_some_iff.1 hu).1
    exact vle_sound hE 3 args[j] u _ (hget j _ u (by simp [hj]) hu) (hr.2 j _ (by simp [hj]))⟩
  refine (h.2 _ G w rargs hs0 hc).mono fun e w' ⟨rv,he,v',H',φ1,⟨h1,h2⟩,h3,h4,h5⟩ => ?_
  subst h1 h2
  have hf : ∀ r,r < w.heap.size → w'.heap[r]? = w.heap[r]? := fun r hr => h4.frame r hr nil_owned
  refine ⟨rv,he,_,H,φ,⟨rfl,rfl⟩,sim_same hs h4.size hf,⟨fun _ _ => rfl,fun _ _ h => h,fun h => h,fun _ h => .inl h,fun r hr _ => hf r hr,h4.shape,h4.size,h4.os,h4.tape,h4.output,h4.drawn⟩,?_⟩
  generalize hxl : xs.length = len at h5
  cases h5 with
  | ownnil i k a hi h9 =>
    have : xs = [] := List.eq_nil_of_length_eq_zero hxl
    subst this
    cases a with
    | none => exact .slnil _
    | some p => exact .sl0 false _
  | own i off len lb k r cap c e hi h9 hc9 hs9 hlb hl =>
    subst hxl
    have hfresh : w.heap.size ≤ r := by
      rcases h4.own r ⟨0,.cells (mI xs),rfl,rfl,h9⟩ with h | h
      · exact absurd h nil_owned
      · exact h
    have hE1 : WkE φ1 G [.cells (mI xs)] [] w' [] := ⟨h3,rfl,fun i => by simp,fun i b hi => by simp at hi,List.nodup_nil⟩
    have h9' : φ1 0 = some r := h9
    refine Rep.mk_sl (k := 1) (mI_length).symm Nat.one_pos (fun _ hX => ?_) (by rw [mI_length]; exact hl) (fun h => by cases h) (fun i e he => ?_) (fun i e he j u hu => ?_)
    · rcases hX with hX | ⟨i,b,hi,hb,hφ⟩
      · have := hs.glt r hX; omega
      · have := hs.lt hi hb hφ; omega
    · obtain ⟨z,_,rfl⟩ := List.mem_map.1 (List.mem_of_getElem? he); rfl
    · obtain ⟨z,_,rfl⟩ := List.mem_map.1 (List.mem_of_getElem? he)
      cases j with
      | zero =>
        have hu : u = I z := by simpa [AVal.cells] using hu.symm
        subst hu
        obtain ⟨x,hx,hxr⟩ := hE1.blockCells (i := 0) rfl h9' i (I z) he
        refine ⟨x,?_,hxr.int_inv ▸ .val _⟩
        show w'.cell? _ = _
        simpa using hx
      | succ j => simp [AVal.cells] at hu
end
theorem leafB {B t : Nat} {e : Ex} {fr : Fr} {H0 H1 : AHeap} {R : AVal → AHeap → Prop} (v : AVal) (hv : fr.get t = v) (hB : H0.length = B) (hok : ∀ b ∈ H0,blkOk B b = true) (hvid : vid B 3 v = true) (hR : R v H0) (he : e = .norm ∨ e = .ret := by simp) : retA B [.tmp t] R e fr (H0 ++ H1) [] := by
  subst hv
  refine ⟨he,?_⟩
  simp only [killM,resL,resA]
  exact ⟨⟨trivial,trivial⟩,idρ B,fr.get t,H0,Wk.same hB hok (fun p hp => by simp at hp; subst hp; exact ⟨rfl,hvid⟩),hR⟩
theorem leafB' {B t : Nat} {e : Ex} {fr : Fr} {H0 : AHeap} {R : AVal → AHeap → Prop} (v : AVal) (hv : fr.get t = v) (hB : H0.length = B) (hok : ∀ b ∈ H0,blkOk B b = true) (hvid : vid B 3 v = true) (hR : R v H0) (he : e = .norm ∨ e = .ret := by simp) : retA B [.tmp t] R e fr H0 [] := by
  have := leafB (H1 := []) v hv hB hok hvid hR he
  rwa [List.append_nil] at this
theorem leafB0 {B : Nat} {e : Ex} {fr : Fr} {H0 H1 : AHeap} {R : AVal → AHeap → Prop} (hB : H0.length = B) (hok : ∀ b ∈ H0,blkOk B b = true) (hR : R (.tup []) H0) (he : e = .norm ∨ e = .ret := by simp) : retA B [] R e fr (H0 ++ H1) [] := by
  refine ⟨he,?_⟩
  simp only [killM,resL]
  exact ⟨trivial,idρ B,.tup [],H0,Wk.same hB hok (fun p hp => by simp at hp; subst hp; exact ⟨rfl,rfl⟩),hR⟩
theorem roundB {x : Cx} {Q : QT} {ks : List Kont} {fr : Fr} {H : AHeap} {ι : Type} {St : ι → Fr × AHeap} {μ : ι → Nat} {i : ι} (j : ι) (h1 : μ j < μ i) (hH : H = (St j).2) (hB : H.length = x.B) (hok : ∀ b ∈ H,blkOk x.B b = true)
    (hf : ∀ p ∈ (St j).1,fr.get p.1 = p.2 ∧ vid x.B 3 p.2 = true) : KQ x Q .norm (.loop [] St μ i :: ks) fr H [] := by
  subst hH
  refine KQ_round rfl j (idρ x.B) h1 ?_
  have := Wk.same (H1 := []) hB hok hf
  rwa [List.append_nil] at this
theorem WkB {B : Nat} {H : AHeap} (hB : H.length = B) (hok : ∀ b ∈ H,blkOk B b = true) {fr fr' : Fr} (hf : ∀ p ∈ fr',fr.get p.1 = p.2 ∧ vid B 3 p.2 = true) : Wk B [] (idρ B) fr H fr' H := by
  have := Wk.same (H1 := []) hB hok hf
  rwa [List.append_nil] at this
end Go.Abs
