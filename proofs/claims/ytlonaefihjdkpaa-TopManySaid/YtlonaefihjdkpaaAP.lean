/- Small laws for walking: lists of integers,indices of a range,integers that fit; A contract shown where nothing is owned holds wherever something is owned; slices that are owned may be lent. -/
import Derived.Test.YtlonaefihjdkpaaAW
import Derived.Laws.BitsLemmas
namespace Go.Abs
open AVal
theorem wrap64 {x : Int} (h1 : -9223372036854775808 ≤ x) (h2 : x < 9223372036854775808) : IntKind.i64.wrap x = x := by
  rw [IntKind.wrap_i64]; omega
@[simp] theorem bndL_mapI (N : Nat) (l : List Int) : bndL N (l.map I) = true := bndL_map I l fun _ => rfl
def mI (xs : List Int) : List AVal := xs.map I
section
variable {xs pre suf : List Int} {x : Int}
theorem mI_length : (mI xs).length = xs.length := by simp [mI]
theorem mI_bnd {N : Nat} : bndL N (mI xs) = true := bndL_mapI N xs
theorem mI_mid : (mI (pre ++ x :: suf)).getD pre.length .any = I x := by simp [mI,List.getD_eq_getElem?_getD]
theorem mI_get {i : Nat} (h : i < xs.length) : (mI xs).getD i .any = I (xs.getD i 0) := by simp [mI,List.getD_eq_getElem?_getD,h]
theorem mI_cells : (mI xs).flatMap AVal.cells = mI xs := by
  induction xs with
  | nil => rfl
  | cons a r ih => simp only [mI,List.map_cons,List.flatMap_cons] at ih ⊢; rw [ih]; rfl
theorem mI_sz : szOk 1 (mI xs) = True := by
  refine eq_true fun e he => ?_
  obtain ⟨a,_,rfl⟩ := List.mem_map.1 he; rfl
theorem mI_isCell : (∀ u ∈ mI xs,u.isCell = true) = True := by
  refine eq_true fun e he => ?_
  obtain ⟨a,_,rfl⟩ := List.mem_map.1 he; rfl
theorem mI_take {n : Nat} : (mI xs).take n = mI (xs.take n) := by simp [mI]
theorem mI_drop {n : Nat} : (mI xs).drop n = mI (xs.drop n) := by simp [mI]
theorem mI_append {ys : List Int} : mI xs ++ mI ys = mI (xs ++ ys) := by simp [mI]
theorem mI_nil : mI [] = [] := rfl
theorem ints_mI : ∀ {xs : List Int},ints (mI xs) = some xs
  | [] => rfl
  | x :: xs => by show (ints (mI xs)).map (x :: ·) = _; rw [ints_mI]; rfl
theorem mI_snoc : mI xs ++ [I x] = mI (xs ++ [x]) := by simp [mI]
theorem mI_hd {i : Nat} (h : i < xs.length) : (mI (xs.drop i)).headD .any = I (xs.getD i 0) := by
  rw [List.drop_eq_getElem_cons h]; simp [mI,List.getD_eq_getElem?_getD,h]
theorem mI_put {ys : List Int} {v : Int} : mI xs ++ [I v] ++ mI ys = mI (xs ++ [v] ++ ys) := by simp [mI]
theorem mI_rep {n : Nat} {v : Int} : List.replicate n (I v) = mI (List.replicate n v) := by simp [mI]
end
def sI (xs : List Int) : AVal := .sl false false (mI xs)
def mS (xs : List (List Int)) : List AVal := xs.map sI
section
variable {xs pre suf : List (List Int)} {x : List Int}
theorem mS_length : (mS xs).length = xs.length := by simp [mS]
theorem mS_bnd {N : Nat} : bndL N (mS xs) = true := bndL_map sI xs fun _ => by simp [sI,AVal.bnd,mI_bnd]
theorem mS_mid : (mS (pre ++ x :: suf)).getD pre.length .any = sI x := by simp [mS,List.getD_eq_getElem?_getD]
theorem mS_get {i : Nat} (h : i < xs.length) : (mS xs).getD i .any = sI (xs.getD i []) := by simp [mS,List.getD_eq_getElem?_getD,h]
theorem mS_cells : (mS xs).flatMap AVal.cells = mS xs := by
  induction xs with
  | nil => rfl
  | cons a r ih => simp only [mS,List.map_cons,List.flatMap_cons] at ih ⊢; rw [ih]; rfl
theorem mS_sz : szOk 1 (mS xs) = True := by
  refine eq_true fun e he => ?_
  obtain ⟨a,_,rfl⟩ := List.mem_map.1 he; rfl
theorem mS_isCell : (∀ u ∈ mS xs,u.isCell = true) = True := by
  refine eq_true fun e he => ?_
  obtain ⟨a,_,rfl⟩ := List.mem_map.1 he; rfl
theorem mS_take {n : Nat} : (mS xs).take n = mS (xs.take n) := by simp [mS]
theorem mS_drop {n : Nat} : (mS xs).drop n = mS (xs.drop n) := by simp [mS]
theorem mS_append {ys : List (List Int)} : mS xs ++ mS ys = mS (xs ++ ys) := by simp [mS]
theorem mS_nil : mS [] = [] := rfl
end
theorem sI_eq (xs : List Int) : sI xs = .sl false false (mI xs) := rfl
theorem cells_sI (xs : List Int) : (sI xs).cells = [sI xs] := rfl
theorem isCell_sI (xs : List Int) : (sI xs).isCell = true := rfl
theorem cellsOk_sI (xs : List Int) : (sI xs).cellsOk = true := rfl
section
variable {α : Type} {pre suf : List α} {x : α} {f : α → AVal} {d : AVal}
theorem rng_lt : ((pre.length : Int) < ((pre ++ x :: suf).length : Int)) = True := by simp; omega
theorem rng_end : ((pre.length : Int) < ((pre ++ ([] : List α)).length : Int)) = False := by simp
theorem rng_get : ((pre ++ x :: suf).map f).getD pre.length d = f x := by simp [List.getD_eq_getElem?_getD]
end
theorem rng_idx' {α : Type} {pre suf : List α} {x : α} (h : (pre ++ x :: suf).length < 9223372036854775808) : IntKind.i64.wrap ((pre.length : Int) + 1) = (pre.length : Int) + 1 := by
  have : pre.length + (suf.length + 1) < 9223372036854775808 := by simpa using h
  rw [wrap64 (by omega) (by omega)]
theorem cells_I (n : Int) : (I n).cells = [I n] := rfl
theorem cells_B (n : Bool) : (B n).cells = [B n] := rfl
theorem cells_sl (a b : Bool) (xs : List AVal) : (AVal.sl a b xs).cells = [AVal.sl a b xs] := rfl
theorem cells_val (v : Value) : (AVal.val v).cells = [AVal.val v] := rfl
theorem cells_own (i o l b k : Nat) : (AVal.own i o l b k).cells = [AVal.own i o l b k] := rfl
theorem cells_agg (cs : List AVal) : (AVal.agg cs).cells = cs := rfl
theorem isCell_I (n : Int) : (I n).isCell = true := rfl
theorem isCell_B (n : Bool) : (B n).isCell = true := rfl
theorem isCell_nil : nilSl.isCell = true := rfl
theorem isCell_sl (a b : Bool) (xs : List AVal) : (AVal.sl a b xs).isCell = true := rfl
theorem isCell_own (i o l b k : Nat) : (AVal.own i o l b k).isCell = true := rfl
theorem isCell_ptr (i o : Nat) : (AVal.ptr i o).isCell = true := rfl
theorem isCell_fn (f : Fn) (a b : List AVal) : (AVal.fn f a b).isCell = true := rfl
theorem isCell_yld (i : Nat) : (AVal.yld i).isCell = true := rfl
theorem isCell_rp (cs : List AVal) : (AVal.rp cs).isCell = true := rfl
theorem cellsOk_I (n : Int) : (I n).cellsOk = true := rfl
theorem cellsOk_B (n : Bool) : (B n).cellsOk = true := rfl
theorem cellsOk_nil : nilSl.cellsOk = true := rfl
theorem cellsOk_sl (a b : Bool) (xs : List AVal) : (AVal.sl a b xs).cellsOk = true := rfl
theorem cellsOk_own (i o l b k : Nat) : (AVal.own i o l b k).cellsOk = true := rfl
theorem cellsOk_ptr (i o : Nat) : (AVal.ptr i o).cellsOk = true := rfl
theorem cellsOk_fn (f : Fn) (a b : List AVal) : (AVal.fn f a b).cellsOk = true := rfl
theorem cellsOk_yld (i : Nat) : (AVal.yld i).cellsOk = true := rfl
theorem cells_mp (i : Nat) : (AVal.mp i).cells = [AVal.mp i] := rfl
theorem isCell_mp (i : Nat) : (AVal.mp i).isCell = true := rfl
theorem cellsOk_mp (i : Nat) : (AVal.mp i).cellsOk = true := rfl
theorem cellsOk_rp (cs : List AVal) : (AVal.rp cs).cellsOk = true := rfl
theorem cellsOk_agg (cs : List AVal) : (AVal.agg cs).cellsOk = cs.all AVal.isCell := rfl
theorem cells_nil : nilSl.cells = [nilSl] := rfl
theorem cells_ptr (i o : Nat) : (AVal.ptr i o).cells = [AVal.ptr i o] := rfl
theorem cells_fn (f : Fn) (a b : List AVal) : (AVal.fn f a b).cells = [AVal.fn f a b] := rfl
theorem cells_rp (cs : List AVal) : (AVal.rp cs).cells = [AVal.rp cs] := rfl
theorem cut_one (cs : List AVal) : cut false 1 cs = cs.headD .any := rfl
theorem vle_mI {H : AHeap} {ρ : List (Option Nat)} {img : List Nat} {d i n lb : Nat} {cs : List AVal} {xs : List Int} (h : H[i]? = some (.cells cs)) (hi : i ∉ img) (hn : n = xs.length) (hc : cs.take n = mI xs) : vle H ρ img (d + 1) (.own i 0 n lb 1) (.sl false false (mI xs)) := by
  subst hn
  refine ⟨mI_bnd,rfl,rfl,rfl,by omega,hi,mI_length,by rw [mI_sz]; trivial,?_⟩
  rw [h]
  simp only [Nat.mul_one,mI_cells]
  exact hc
theorem vle_mS {H : AHeap} {ρ : List (Option Nat)} {img : List Nat} {d i n lb : Nat} {cs : List AVal} {xs : List (List Int)} (h : H[i]? = some (.cells cs)) (hi : i ∉ img) (hn : n = xs.length) (hc : cs.take n = mS xs) : vle H ρ img (d + 1) (.own i 0 n lb 1) (.sl false false (mS xs)) := by
  subst hn
  refine ⟨mS_bnd,rfl,rfl,rfl,by omega,hi,mS_length,by rw [mS_sz]; trivial,?_⟩
  rw [h]
  simp only [Nat.mul_one,mS_cells]
  exact hc
theorem succ_le_self' (n : Nat) : (n + 1 ≤ n) = False := by simp
theorem mS_one (x : List Int) : [AVal.sl false false (mI x)] = mS [x] := rfl
theorem leaf {t : Nat} {e : Ex} {fr : Fr} {H : AHeap} {R : AVal → AHeap → Prop} (v : AVal) (hv : vle H [] [] 3 (fr.get t) v) (hR : R v []) (he : e = .norm ∨ e = .ret := by simp) : retA 0 [.tmp t] R e fr H [] :=
  retA_nil he (p := True) (vs := [fr.get t]) (by simp [resL,resA]) trivial hv hR
theorem leaf2 {t u : Nat} {e : Ex} {fr : Fr} {H : AHeap} {R : AVal → AHeap → Prop} (v : AVal) (hv : vle H [] [] 3 (.tup [fr.get t,fr.get u]) v) (hR : R v []) (he : e = .norm ∨ e = .ret := by simp) : retA 0 [.tmp t,.tmp u] R e fr H [] :=
  retA_nil he (p := True) (vs := [fr.get t,fr.get u]) (by simp [resL,resA]) trivial hv hR
theorem Wk.mk0 {ρ : List (Option Nat)} {fr fr' : Fr} {H H' : AHeap} (hl : ρ.length = H'.length) (hn : (imgs ρ 0 H').Nodup) (hh : hle 0 H ρ (imgs ρ 0 H') 0 H') (hf : fle H ρ (imgs ρ 0 H') fr fr') : Wk 0 [] ρ fr H fr' H' :=
  ⟨hl,fun i hi => absurd hi (Nat.not_lt_zero i),hn,hh,hf,fun m hm => by cases hm⟩
theorem round1 {x : Cx} {Q : QT} {ks : List Kont} {fr : Fr} {H : AHeap} (hB : x.B = 0) {ι : Type} {St : ι → Fr × AHeap} {μ : ι → Nat} {i : ι} (j : ι) (ρ : List (Option Nat)) (h1 : μ j < μ i) (h2 : Wk 0 [] ρ fr H (St j).1 (St j).2) : KQ x Q .norm (.loop [] St μ i :: ks) fr H [] :=
  KQ_round rfl j ρ h1 (by rw [hB]; exact h2)
theorem round0 {x : Cx} {Q : QT} {ks : List Kont} {fr : Fr} {H : AHeap} (hB : x.B = 0) {ι : Type} {St : ι → Fr × AHeap} {μ : ι → Nat} {i : ι} (j : ι) (h1 : μ j < μ i) (hn : (St j).2 = []) (h2 : fle H [] [] fr (St j).1) : KQ x Q .norm (.loop [] St μ i :: ks) fr H [] :=
  KQ_round rfl j [] h1 (by rw [hB,hn]; exact Wk.nil h2)
end Go.Abs
namespace Go.Abs
open AVal
def AVal.flat : AVal → Bool
  | .any | .val _ => true
  | .tup vs => vs.all fun v => match v with | .val _ => true | .any => true | .agg us => us.all (fun v => match v with | .val _ => true | .any => true | _ => false) | _ => false
  | .agg vs => vs.all fun v => match v with | .val _ => true | .any => true | _ => false
  | _ => false
theorem Rep.flat {E E' : Env} {v : AVal} {rv : Value} (h : Rep E v rv) (hf : v.flat = true) : Rep E' v rv := by
  have one : ∀ (u : AVal) (x : Value),(match u with | .val _ => true | .any => true | _ => false) = true → Rep E u x → Rep E' u x := by
    intro u x hu hr
    cases hr <;> first | exact .any _ | exact .val _ | cases hu
  have two : ∀ (u : AVal) (x : Value),(match u with | .val _ => true | .any => true | .agg us => us.all (fun v => match v with | .val _ => true | .any => true | _ => false) | _ => false) = true → Rep E u x → Rep E' u x := by
    intro u x hu hr
    cases hr with
    | agg cs vs h1 hr => exact .agg cs vs h1 fun j u hj => one u _ (List.all_eq_true.1 hu u (List.mem_of_getElem? hj)) (hr j u hj)
    | any => exact .any _
    | val => exact .val _
    | _ => cases hu
  cases h with
  | any => exact .any _
  | val => exact .val _
  | tup cs vs h1 hr => exact .tup cs vs h1 fun j u hu => two u _ (List.all_eq_true.1 hf u (List.mem_of_getElem? hu)) (hr j u hu)
  | agg cs vs h1 hr => exact .agg cs vs h1 fun j u hu => one u _ (List.all_eq_true.1 hf u (List.mem_of_getElem? hu)) (hr j u hu)
  | _ => cases hf
section
variable {P : Program} {φ : Nat → Option Nat} {G : Nat → Prop} {H : AHeap} {w w' : World}
theorem env_same (_ : w.heap.size ≤ w'.heap.size) (hf : ∀ r,r < w.heap.size → w'.heap[r]? = w.heap[r]?) : (env φ G H w).Le (env φ G H w') :=
  ⟨fun _ _ => rfl,fun _ h => h,fun _ h => .inl h,fun r hr _ => hf r hr,fun r c e f hc => ⟨c,by rw [show (env φ G H w').w.heap[r]? = w.heap[r]? from hf r (Array.getElem?_eq_some_iff.1 hc).1]; exact hc,rfl⟩⟩
theorem sim_same (hs : SimH φ G H w) (hsz : w.heap.size ≤ w'.heap.size) (hf : ∀ r,r < w.heap.size → w'.heap[r]? = w.heap[r]?) : SimH φ G H w' :=
  ⟨fun q hq => Nat.lt_of_lt_of_le (hs.glt q hq) hsz,hs.inj,hs.dis,fun i b hi => by
    by_cases ha : b.alive = true
    · exact (hs.blk i b hi).mono (env_same hsz hf) fun r hr => hf r (hs.lt hi ha hr)
    · cases b <;> first | trivial | exact absurd rfl ha⟩
theorem nil_owned {r : Nat} : ¬ Owned φ [] r := fun ⟨i,b,hi,_⟩ => by simp at hi
theorem Spec.lift {f : FuncId} {args : List AVal} {v : AVal} (h : Spec P f args [] fun v' H' => H' = [] ∧ v' = v) (ha : bndL 0 args = true) (hv : v.bnd 0 = true) (H : AHeap) : Spec P f args H fun v' H' => v' = v ∧ H' = H := by
  refine ⟨h.1,fun φ G w rargs hs hr => ?_⟩
  have hs0 : SimH φ (fun r => G r ∨ Owned φ H r) [] w := ⟨fun q hq => by
      rcases hq with hq | ⟨i,b,hi,hb,hφ⟩
      · exact hs.glt q hq
      · exact hs.lt hi hb hφ,fun i _ b _ _ hi => by simp at hi,fun i b r hi => by simp at hi,fun i b hi => by simp at hi⟩
  refine (h.2 φ (fun r => G r ∨ Owned φ H r) w rargs hs0 ⟨hr.1,fun j u hu => Rep.restrict (E := env φ G H w) (E' := env φ (fun r => G r ∨ Owned φ H r) [] w) (N := 0) (fun i _ hi => absurd hi (by omega)) (fun b hb => hb.elim id fun hb => absurd hb nil_owned) rfl (hr.2 j u hu) (bndL_mem ha u (List.mem_of_getElem? hu))⟩).mono fun e w' ⟨rv,he,v',H',φ1,⟨h1,h2⟩,h3,h4,h5⟩ => ?_
  · subst h1 h2
    have hf : ∀ r,r < w.heap.size → w'.heap[r]? = w.heap[r]? := fun r hr => h4.frame r hr nil_owned
    exact ⟨rv,he,v',H,φ,⟨rfl,rfl⟩,sim_same hs h4.size hf,⟨fun _ _ => rfl,fun _ _ h => h,fun h => h,fun _ h => .inl h,fun r hr _ => hf r hr,h4.shape,h4.size,h4.os,h4.tape,h4.output,h4.drawn⟩,
      Rep.restrict (E := env φ1 (fun r => G r ∨ Owned φ H r) [] w') (E' := env φ G H w') (N := 0) (fun i _ hi => absurd hi (by omega)) (fun b hb => Or.inl hb) rfl h5 hv⟩
theorem Spec.liftE {f : FuncId} {args : List AVal} {C : AVal → Prop} (h : Spec P f args [] fun v' H' => H' = [] ∧ C v') (ha : bndL 0 args = true) (hv : ∀ v,C v → v.bnd 0 = true) (H : AHeap) : Spec P f args H fun v' H' => C v' ∧ H' = H := by
  refine ⟨h.1,fun φ G w rargs hs hr => ?_⟩
  have hs0 : SimH φ (fun r => G r ∨ Owned φ H r) [] w := ⟨fun q hq => by
      rcases hq with hq | ⟨i,b,hi,hb,hφ⟩
      · exact hs.glt q hq
      · exact hs.lt hi hb hφ,fun i _ b _ _ hi => by simp at hi,fun i b r hi => by simp at hi,fun i b hi => by simp at hi⟩
  refine (h.2 φ (fun r => G r ∨ Owned φ H r) w rargs hs0 ⟨hr.1,fun j u hu => Rep.restrict (E := env φ G H w) (E' := env φ (fun r => G r ∨ Owned φ H r) [] w) (N := 0) (fun i _ hi => absurd hi (by omega)) (fun b hb => hb.elim id fun hb => absurd hb nil_owned) rfl (hr.2 j u hu) (bndL_mem ha u (List.mem_of_getElem? hu))⟩).mono fun e w' ⟨rv,he,v',H',φ1,⟨h1,h2⟩,h3,h4,h5⟩ => ?_
  · subst h1
    have hf : ∀ r,r < w.heap.size → w'.heap[r]? = w.heap[r]? := fun r hr => h4.frame r hr nil_owned
    exact ⟨rv,he,v',H,φ,⟨h2,rfl⟩,sim_same hs h4.size hf,⟨fun _ _ => rfl,fun _ _ h => h,fun h => h,fun _ h => .inl h,fun r hr _ => hf r hr,h4.shape,h4.size,h4.os,h4.tape,h4.output,h4.drawn⟩,
      Rep.restrict (E := env φ1 (fun r => G r ∨ Owned φ H r) [] w') (E' := env φ G H w') (N := 0) (fun i _ hi => absurd hi (by omega)) (fun b hb => Or.inl hb) rfl h5 (hv v' h2)⟩
theorem Spec.lend {f : FuncId} {args args' : List AVal} {v : AVal} (h : Spec P f args' [] fun v' H' => H' = [] ∧ v' = v) (hv : v.flat = true) {H : AHeap} (ha : vle.vleL H [] [] 3 args args') : Spec P f args H fun v' H' => v' = v ∧ H' = H := by
  refine ⟨h.1,fun φ G w rargs hs hr => ?_⟩
  have hE : WkE φ G H [] w [] := ⟨hs,rfl,fun i => by simp,fun i b hi => by simp at hi,List.nodup_nil⟩
  have hs0 : SimH (wkφ φ []) G [] w := ⟨hs.glt,fun i _ b _ _ hi => by simp at hi,fun i b r hi => by simp at hi,fun i b hi => by simp at hi⟩
  obtain ⟨hlen,hget⟩ := vleL_get ha
  have hc : CRep (env (wkφ φ []) G [] w) args' rargs := ⟨by rw [← hlen]; exact hr.1,fun j u hu => by
    have hj : j < args.length := by rw [hlen]; exact (List.getElem?_eq_some_iff.1 hu).1
    exact vle_sound hE 3 args[j] u _ (hget j _ u (by simp [hj]) hu) (hr.2 j _ (by simp [hj]))⟩
  refine (h.2 _ G w rargs hs0 hc).mono fun e w' ⟨rv,he,v',H',φ1,⟨h1,h2⟩,h3,h4,h5⟩ => ?_
  subst h1 h2
  have hf : ∀ r,r < w.heap.size → w'.heap[r]? = w.heap[r]? := fun r hr => h4.frame r hr nil_owned
  exact ⟨rv,he,v',H,φ,⟨rfl,rfl⟩,sim_same hs h4.size hf,⟨fun _ _ => rfl,fun _ _ h => h,fun h => h,fun _ h => .inl h,fun r hr _ => hf r hr,h4.shape,h4.size,h4.os,h4.tape,h4.output,h4.drawn⟩,h5.flat hv⟩
theorem Spec.made {f : FuncId} {args : List AVal} {len lb k : Nat} {cs : List AVal} (h : Spec P f args [] fun v' H' => v' = .own 0 0 len lb k ∧ H' = [.cells cs]) (ha : bndL 0 args = true) (hv : bndL 0 cs = true) (H : AHeap) :
    Spec P f args H fun v' H' => v' = .own H.length 0 len lb k ∧ H' = H ++ [.cells cs] := by
  refine ⟨h.1,fun φ G w rargs hs hr => ?_⟩
  have hs0 : SimH φ (fun r => G r ∨ Owned φ H r) [] w := ⟨fun q hq => by
      rcases hq with hq | ⟨i,b,hi,hb,hφ⟩
      · exact hs.glt q hq
      · exact hs.lt hi hb hφ,fun i _ b _ _ hi => by simp at hi,fun i b r hi => by simp at hi,fun i b hi => by simp at hi⟩
  refine (h.2 φ (fun r => G r ∨ Owned φ H r) w rargs hs0 ⟨hr.1,fun j u hu => Rep.restrict (E := env φ G H w) (E' := env φ (fun r => G r ∨ Owned φ H r) [] w) (N := 0) (fun i _ hi => absurd hi (by omega)) (fun b hb => hb.elim id fun hb => absurd hb nil_owned) rfl (hr.2 j u hu) (bndL_mem ha u (List.mem_of_getElem? hu))⟩).mono fun e w' ⟨rv,he,v',H',φ1,⟨h1,h2⟩,h3,h4,h5⟩ => ?_
  · subst h1 h2
    have hf : ∀ r,r < w.heap.size → w'.heap[r]? = w.heap[r]? := fun r hr => h4.frame r hr nil_owned
    have hnew : ∀ r,φ1 0 = some r → w.heap.size ≤ r := fun r hr => by
      rcases h4.own r ⟨0,.cells cs,rfl,rfl,hr⟩ with h | h
      · exact absurd h nil_owned
      · exact h
    have hsim := sim_same hs h4.size hf
    have hget : ∀ (j : Nat) b,(H ++ [Blk.cells cs])[j]? = some b → (j < H.length ∧ H[j]? = some b) ∨ (j = H.length ∧ b = .cells cs) := fun j b hj => by
      rw [List.getElem?_append] at hj
      split at hj
      · rename_i hlt; exact .inl ⟨hlt,hj⟩
      · rename_i hge
        have : j - H.length = 0 := by
          by_cases h0 : j - H.length = 0
          · exact h0
          · rw [List.getElem?_eq_none (by simp; omega)] at hj; cases hj
        rw [this] at hj
        simp at hj
        exact .inr ⟨by omega,hj.symm⟩
    have hown : ∀ r,Owned (up φ H.length (φ1 0)) (H ++ [.cells cs]) r ↔ Owned φ H r ∨ φ1 0 = some r := fun r => by
      constructor
      · rintro ⟨i,b,hi,hb,hφ⟩
        rcases hget i b hi with ⟨hlt,hi'⟩ | ⟨rfl,rfl⟩
        · rw [up_ne (by omega)] at hφ; exact .inl ⟨i,b,hi',hb,hφ⟩
        · rw [up_same] at hφ; exact .inr hφ
      · rintro (⟨i,b,hi,hb,hφ⟩ | hφ)
        · have hlt := (List.getElem?_eq_some_iff.1 hi).1
          exact ⟨i,b,by rw [List.getElem?_append_left hlt]; exact hi,hb,by rw [up_ne (by omega)]; exact hφ⟩
        · exact ⟨H.length,.cells cs,by simp,rfl,by rw [up_same]; exact hφ⟩
    have hle : (env φ G H w').Le (env (up φ H.length (φ1 0)) G (H ++ [.cells cs]) w') → True := fun _ => trivial
    have hR : ∀ {u : AVal} {x : Value},Rep (env φ G H w) u x → Rep (env (up φ H.length (φ1 0)) G (H ++ [.cells cs]) w') u x := fun {u x} hu => by
      refine hu.mono ⟨fun i hi => up_ne (by have := Dom.lt hi; omega),fun i hi => ?_,fun b hb => ?_,fun r hr _ => hf r hr,h4.shape⟩
      · obtain ⟨b,hb,hne⟩ := hi
        exact ⟨b,by rw [List.getElem?_append_left (List.getElem?_eq_some_iff.1 hb).1]; exact hb,hne⟩
      · rcases hb with hb | hb
        · exact .inl (.inl hb)
        · rcases (hown b).1 hb with hb | hb
          · exact .inl (.inr hb)
          · exact .inr (hnew b hb)
    have hC : ∀ {u : AVal} {x : Value},u.bnd 0 = true → Rep (env φ1 (fun r => G r ∨ Owned φ H r) [.cells cs] w') u x → Rep (env (up φ H.length (φ1 0)) G (H ++ [.cells cs]) w') u x := fun {u x} hb hu =>
      Rep.restrict (E := env φ1 (fun r => G r ∨ Owned φ H r) [.cells cs] w') (E' := env (up φ H.length (φ1 0)) G (H ++ [.cells cs]) w') (N := 0) (fun i _ hi => absurd hi (by omega)) (fun b hb => by
        rcases hb with hb | hb
        · exact .inl (.inl hb)
        · rcases (hown b).1 hb with hb | hb
          · exact .inl (.inr hb)
          · exact .inr ⟨0,.cells cs,rfl,rfl,hb⟩) rfl hu hb
    have hblk := h3.blk 0 _ rfl
    have hLH : (H ++ [Blk.cells cs])[H.length]? = some (.cells cs) := by simp
    refine ⟨rv,he,_,_,up φ H.length (φ1 0),⟨rfl,rfl⟩,⟨hsim.glt,fun i j b c r hi hj hb hc hir hjr => ?_,fun i b r hi hb hir => ?_,fun i b hi => ?_⟩,⟨fun i hi => up_ne (by omega),fun i hi hd => ?_,fun _ => by simp,fun r hr => ?_,fun r hr _ => hf r hr,h4.shape,h4.size,h4.os,h4.tape,h4.output,h4.drawn⟩,?_⟩
    · rcases hget i b hi with ⟨h1,hi'⟩ | ⟨rfl,rfl⟩ <;> rcases hget j c hj with ⟨h2,hj'⟩ | ⟨rfl,rfl⟩
      · rw [up_ne (by omega)] at hir hjr; exact hs.inj i j b c r hi' hj' hb hc hir hjr
      · rw [up_ne (by omega)] at hir; rw [up_same] at hjr
        have := hs.lt hi' hb hir; have := hnew r hjr; omega
      · rw [up_ne (by omega)] at hjr; rw [up_same] at hir
        have := hs.lt hj' hc hjr; have := hnew r hir; omega
      · rfl
    · rcases hget i b hi with ⟨h1,hi'⟩ | ⟨rfl,rfl⟩
      · rw [up_ne (by omega)] at hir; exact hs.dis i b r hi' hb hir
      · rw [up_same] at hir; intro hg; have := hs.glt r hg; have := hnew r hir; omega
    · rcases hget i b hi with ⟨h1,hi'⟩ | ⟨rfl,rfl⟩
      · rw [up_ne (by omega)]
        by_cases hal : b.alive = true
        · refine BlkRep.mono (E := env φ G H w) (E' := env (up φ H.length (φ1 0)) G (H ++ [.cells cs]) w') ⟨fun i hi => up_ne (by have := Dom.lt hi; omega),fun i hi => ?_,fun b hb => ?_,fun r hr _ => hf r hr,h4.shape⟩ (fun r hr => hf r (hs.lt hi' hal hr)) (hs.blk i b hi')
          · obtain ⟨b,hb,hne⟩ := hi
            exact ⟨b,by rw [List.getElem?_append_left (List.getElem?_eq_some_iff.1 hb).1]; exact hb,hne⟩
          · rcases hb with hb | hb
            · exact .inl (.inl hb)
            · rcases (hown b).1 hb with hb | hb
              · exact .inl (.inr hb)
              · exact .inr (hnew b hb)
        · cases b <;> first | trivial | exact absurd rfl hal
      · rw [up_same]
        simp only [BlkRep] at hblk ⊢
        cases hφ : φ1 0 with
        | none => rw [hφ] at hblk; exact hblk
        | some r =>
          rw [hφ] at hblk
          obtain ⟨c,e',hc,hl,hr⟩ := hblk
          rw [hφ] at hC
          exact ⟨c,e',hc,hl,fun j u hu => hC (bndL_mem hv u (List.mem_of_getElem? hu)) (hr j u hu)⟩
    · obtain ⟨b,hb,hne⟩ := hd
      exact ⟨b,by rw [List.getElem?_append_left (List.getElem?_eq_some_iff.1 hb).1]; exact hb,hne⟩
    · rcases (hown r).1 hr with h | h
      · exact .inl h
      · exact .inr (hnew r h)
    · cases h5 with
      | ownnil i k a hi h9 => exact .ownnil _ _ _ ⟨.cells cs,hLH,by simp⟩ (by show up φ H.length (φ1 0) H.length = none; rw [up_same]; exact h9)
      | own i off len lb k r cap c e hi h9 hc hs9 hlb hl => exact .own _ _ _ _ _ r cap c e ⟨.cells cs,hLH,by simp⟩ (by show up φ H.length (φ1 0) H.length = some r; rw [up_same]; exact h9) hc hs9 hlb hl
def Blk.gone : Blk → Blk
  | .hole => .hole
  | _ => .dead
theorem Spec.give {f : FuncId} {args args1 : List AVal} {H1 : AHeap} {v : AVal} {ρ : List (Option Nat)} {R : AHeap → Prop} (h : Spec P f args1 H1 fun v' H' => v' = v ∧ R H') (hl : args1.length = args.length) (hw : Wk 0 [] ρ (entryFr 0 args) H (entryFr 0 args1) H1) (hv : v.bnd 0 = true) :
    Spec P f args H fun v' H' => v' = v ∧ H' = H.map Blk.gone := by
  refine ⟨h.1,fun φ G w rargs hs hr => ?_⟩
  have hs0 : SimS 0 φ G (entryFr 0 args) H [] (rargs ++ Array.replicate 0 undef).size { tmps := rargs ++ Array.replicate 0 undef,defers := [] } w :=
    ⟨hs,entry_rep hr 0,rfl,rfl,fun _ hm => (by cases hm),Nat.zero_le _⟩
  obtain ⟨k1,k2⟩ := hw.sound hs0
  have hc : CRep (env (wkφ φ ρ) G H1 w) args1 rargs := ⟨by rw [hl]; exact hr.1,fun j u hu => by
    have h3 := k1.fr j
    rw [entryFr_get] at h3
    simp only [Nat.zero_le,if_true,Nat.sub_zero,List.getD_eq_getElem?_getD,hu,Option.getD_some] at h3
    have hj : j < rargs.size := by rw [hr.1,← hl]; exact (List.getElem?_eq_some_iff.1 hu).1
    simpa [Array.getElem?_append_left hj] using h3⟩
  refine (h.2 _ G w rargs k1.sim hc).mono fun e w' ⟨rv,he,v',H',φ1,⟨e1,_⟩,h3,h4,h5⟩ => ?_
  subst e1
  have hdead : ∀ (i : Nat) b,(H.map Blk.gone)[i]? = some b → b.alive = false := fun i b hb => by
    simp only [List.getElem?_map,Option.map_eq_some_iff] at hb
    obtain ⟨c,_,rfl⟩ := hb
    cases c <;> rfl
  have hno : ∀ r,¬ Owned φ (H.map Blk.gone) r := fun r ⟨i,b,hi,hb,_⟩ => by rw [hdead i b hi] at hb; cases hb
  refine ⟨rv,he,v',H.map Blk.gone,φ,⟨rfl,rfl⟩,⟨fun q hq => Nat.lt_of_lt_of_le (hs.glt q hq) h4.size,fun i j b c r hi hj hb => (by rw [hdead i b hi] at hb; cases hb),fun i b r hi hb => (by rw [hdead i b hi] at hb; cases hb),fun i b hi => ?_⟩,
    ⟨fun _ _ => rfl,fun i _ ⟨b,hb,hne⟩ => ⟨b.gone,by simp [hb],?_⟩,fun h => by simp,fun r hr => absurd hr (hno r),fun r hr ho => h4.frame r hr fun ho' => ?_,h4.shape,h4.size,h4.os,h4.tape,h4.output,h4.drawn⟩,
    Rep.restrict (E := env φ1 G H' w') (E' := env φ G (H.map Blk.gone) w') (N := 0) (fun i _ hi => absurd hi (by omega)) (fun b hb => .inl (hb.elim id fun hb => absurd hb (hno b))) rfl h5 hv⟩
  · have := hdead i b hi
    cases b <;> first | trivial | cases this
  · cases b <;> first | exact absurd rfl hne | simp [Blk.gone]
  · rcases k2.own r ho' with h | h
    · exact ho h
    · omega
theorem Spec.split_nil {f : FuncId} {t : Bool} {xs post : List AVal} {R : AVal → AHeap → Prop} (h0 : xs = [] → Spec P f (nilSl :: post) H R) (h1 : Spec P f (.sl true t xs :: post) H R) : Spec P f (.sl false t xs :: post) H R := by
  refine ⟨h1.1,fun φ G w rargs hs hr => ?_⟩
  have h := hr.2 0 _ rfl
  have other : ∀ a : AVal,Rep (env φ G H w) a (rargs.getD 0 undef) → CRep (env φ G H w) (a :: post) rargs := fun a ha => ⟨hr.1,fun j u hu => by
    cases j with
    | zero => simp at hu; subst hu; exact ha
    | succ j => exact hr.2 (j + 1) u (by simpa using hu)⟩
  generalize hv : rargs.getD 0 undef = v at h other
  cases h with
  | slnil t => exact (h0 rfl).2 φ G w rargs hs (other nilSl (.val _))
  | sl0 _ a => exact h1.2 φ G w rargs hs (other _ (.sl0 true a))
  | sl nn tight xs b off cap k f g0 hb hl ht hk hc hr' => exact h1.2 φ G w rargs hs (other _ (.sl true t xs b off cap k f g0 hb hl ht hk hc hr'))
end
end Go.Abs
