/- Forgetting: a state read less exactly: temporaries let go,owned blocks read from now on as plain lists,blocks under other numbers. -/
import Derived.Test.YtlonaefihjdkpaaA7
namespace Go.Abs
open AVal
mutual
/-- All blocks that it names have a number below N. -/
def AVal.bnd (N : Nat) : AVal → Bool
  | .any | .val _ => true
  | .sl _ _ xs => bndL N xs
  | .rp cs => bndL N cs
  | .own i _ _ _ _ => decide (i < N)
  | .ptr i _ => decide (i < N)
  | .fn _ a b => bndL N a && bndL N b
  | .agg cs => bndL N cs
  | .tup vs => bndL N vs
  | .yld i => decide (i < N)
  | .mp i => decide (i < N)
def bndL (N : Nat) : List AVal → Bool
  | [] => true
  | x :: r => AVal.bnd N x && bndL N r
end
theorem bndL_mem {N : Nat} : ∀ {xs : List AVal},bndL N xs = true → ∀ x ∈ xs,x.bnd N = true
  | [],_,x,hx => by cases hx
  | y :: r,h,x,hx => by
    simp only [bndL,Bool.and_eq_true] at h
    rcases List.mem_cons.1 hx with rfl | hx
    · exact h.1
    · exact bndL_mem h.2 x hx
theorem bndL_of {N : Nat} : ∀ {xs : List AVal},(∀ x ∈ xs,x.bnd N = true) → bndL N xs = true
  | [],_ => rfl
  | y :: r,h => by
    simp only [bndL,Bool.and_eq_true]
    exact ⟨h y (by simp),bndL_of fun x hx => h x (by simp [hx])⟩
@[simp] theorem bndL_map {α : Type} {N : Nat} (f : α → AVal) (l : List α) (h : ∀ a,(f a).bnd N = true) : bndL N (l.map f) = true :=
  bndL_of fun x hx => by obtain ⟨a,_,rfl⟩ := List.mem_map.1 hx; exact h a
theorem bnd_cells {N : Nat} {v : AVal} (h : v.bnd N = true) : ∀ u ∈ v.cells,u.bnd N = true := by
  cases v with
  | agg cs => intro u hu; exact bndL_mem (show bndL N cs = true from h) u hu
  | _ => intro u hu; simp [AVal.cells] at hu; subst hu; exact h
theorem Rep.restrict {E E' : Env} {N : Nat} (hφ : ∀ i,E.D i → i < N → E'.D i ∧ E'.φ i = E.φ i) (hX : ∀ b,E'.X b → E.X b) (hw : E'.w = E.w) {v : AVal} {rv : Value} (h : Rep E v rv) (hb : v.bnd N = true) : Rep E' v rv := by
  induction h with
  | any v => exact .any v
  | val v => exact .val v
  | slnil t => exact .slnil t
  | sl0 nn a => exact .sl0 nn a
  | sl nn tight xs b off cap k f h0 hbb hl ht hk hc _ ih =>
    have hm := bndL_mem (by simpa [AVal.bnd] using hb)
    exact .sl nn tight xs b off cap k f h0 (fun hn hx => hbb hn (hX _ hx)) hl ht hk (fun i e he j u hu => by rw [hw]; exact hc i e he j u hu) (fun i e he j u hu => ih i e he j u hu (bnd_cells (hm e (List.mem_of_getElem? he)) u (List.mem_of_getElem? hu)))
  | rp cs b off f hn hbb hc _ ih =>
    have hm := bndL_mem (by simpa [AVal.bnd] using hb)
    exact .rp cs b off f hn (fun hx => hbb (hX _ hx)) (fun j u hu => by rw [hw]; exact hc j u hu) (fun j u hu => ih j u hu (hm u (List.mem_of_getElem? hu)))
  | ownnil i k a hi h0 =>
    have hlt : i < N := by simpa [AVal.bnd] using hb
    exact .ownnil i k a (hφ i hi hlt).1 (by rw [(hφ i hi hlt).2]; exact h0)
  | own i off len lb k r cap c e hi h0 hc hs hlb hl =>
    have hlt : i < N := by simpa [AVal.bnd] using hb
    exact .own i off len lb k r cap c e (hφ i hi hlt).1 (by rw [(hφ i hi hlt).2]; exact h0) (by rw [hw]; exact hc) hs hlb hl
  | ptr i off r hi h0 =>
    have hlt : i < N := by simpa [AVal.bnd] using hb
    exact .ptr i off r (hφ i hi hlt).1 (by rw [(hφ i hi hlt).2]; exact h0)
  | fn f first cap fs cs h1 h2 _ _ i1 i2 =>
    simp only [AVal.bnd,Bool.and_eq_true] at hb
    exact .fn f first cap fs cs h1 h2 (fun j u hu => i1 j u hu (bndL_mem hb.1 u (List.mem_of_getElem? hu))) (fun j u hu => i2 j u hu (bndL_mem hb.2 u (List.mem_of_getElem? hu)))
  | agg cs vs h' _ ih => exact .agg cs vs h' (fun j u hu => ih j u hu (bndL_mem (by simpa [AVal.bnd] using hb) u (List.mem_of_getElem? hu)))
  | tup cs vs h' _ ih => exact .tup cs vs h' (fun j u hu => ih j u hu (bndL_mem (by simpa [AVal.bnd] using hb) u (List.mem_of_getElem? hu)))
  | yld i r hi h0 =>
    have hlt : i < N := by simpa [AVal.bnd] using hb
    exact .yld i r (hφ i hi hlt).1 (by rw [(hφ i hi hlt).2]; exact h0)
  | mp i r hi h0 =>
    have hlt : i < N := by simpa [AVal.bnd] using hb
    exact .mp i r (hφ i hi hlt).1 (by rw [(hφ i hi hlt).2]; exact h0)
def imgs (ρ : List (Option Nat)) : Nat → AHeap → List Nat
  | _,[] => []
  | i,b :: r => if b.alive then (match (ρ[i]?).join with | some j => j :: imgs ρ (i + 1) r | none => imgs ρ (i + 1) r) else imgs ρ (i + 1) r
def vle (H : AHeap) (ρ : List (Option Nat)) (img : List Nat) : Nat → AVal → AVal → Prop
  | 0,_,v' => v' = .any
  | d + 1,v,v' => match v' with
    | .any => True
    | .val a => v = .val a
    | .sl nn' t' xs' => bndL 0 xs' = true ∧ match v with
      | .sl nn t xs => (nn' = true → nn = true) ∧ (t' = true → t = true) ∧ xs = xs'
      | .val (.slice none 0 0) => nn' = false ∧ xs' = []
      | .own i off len _ k => nn' = false ∧ t' = false ∧ off = 0 ∧ 0 < k ∧ i ∉ img ∧ xs'.length = len ∧ szOk k xs' ∧ (match H[i]? with | some (.cells cs) => cs.take (len * k) = xs'.flatMap AVal.cells | _ => False)
      | _ => False
    | .rp cs' => bndL 0 cs' = true ∧ match v with
      | .rp cs => cs = cs'
      | .ptr i off => i ∉ img ∧ cs' ≠ [] ∧ (match H[i]? with | some (.cells cs) => (cs.drop off).take cs'.length = cs' | _ => False)
      | _ => False
    | .own i' off' len' lb' k' => i' < ρ.length ∧ match v with
      | .own i off len lb k => (ρ[i']?).join = some i ∧ off = off' ∧ len = len' ∧ lb' ≤ lb ∧ k = k'
      | .val (.slice none 0 0) => (ρ[i']?).join = none ∧ off' = 0 ∧ len' = 0 ∧ lb' = 0
      | _ => False
    | .ptr i' off' => i' < ρ.length ∧ match v with
      | .ptr i off => (ρ[i']?).join = some i ∧ off = off'
      | _ => False
    | .yld i' => i' < ρ.length ∧ match v with
      | .yld i => (ρ[i']?).join = some i
      | _ => False
    | .mp i' => i' < ρ.length ∧ match v with
      | .mp i => (ρ[i']?).join = some i
      | _ => False
    | .fn f' a' b' => match v with
      | .fn f a b => f = f' ∧ vleL d a a' ∧ vleL d b b'
      | _ => False
    | .agg cs' => match v with
      | .agg cs => (cs = cs' ∧ bndL 0 cs' = true) ∨ vleL d cs cs'
      | _ => False
    | .tup vs' => match v with
      | .tup vs => vleL d vs vs'
      | _ => False
where
  vleL (d : Nat) : List AVal → List AVal → Prop
  | [],[] => True
  | x :: r,x' :: r' => vle H ρ img d x x' ∧ vleL d r r'
  | _,_ => False
def csle (H : AHeap) (ρ : List (Option Nat)) (img : List Nat) (cs cs' : List AVal) : Prop := (cs = cs' ∧ bndL 0 cs' = true) ∨ vle.vleL H ρ img 2 cs cs'
def hle (B : Nat) (H : AHeap) (ρ : List (Option Nat)) (img : List Nat) : Nat → AHeap → Prop
  | _,[] => True
  | i,b' :: r => (match b' with
    | .hole => False
    | .dead => True
    | .cells cs' => (match (ρ[i]?).join with
      | some j => (match H[j]? with | some (.cells cs) => csle H ρ img cs cs' | _ => False)
      | none => cs' = [])
    | .defs => (ρ[i]?).join = some i ∧ H[i]? = some .defs
    | .map es' => (es'.all fun p => p.1.bnd 0 && p.2.bnd 0) = true ∧ (match (ρ[i]?).join with
      | some j => H[j]? = some (.map es')
      | none => False)
    | .iter m' n' seen' => m' < ρ.length ∧ (match (ρ[i]?).join,(ρ[m']?).join with
      | some j,some m => H[j]? = some (.iter m n' seen')
      | _,_ => False)
    | .loop st pend fr n ps as bd => i < B ∧ H[i]? = some (.loop st pend fr n ps as bd) ∧ ∀ t,(Fr.get fr t).bnd B = true) ∧ hle B H ρ img (i + 1) r
def fle (H : AHeap) (ρ : List (Option Nat)) (img : List Nat) (fr : Fr) : Fr → Prop
  | [] => True
  | (t,v') :: r => vle H ρ img 3 (fr.get t) v' ∧ fle H ρ img fr r
structure Wk (B : Nat) (ms : List Nat) (ρ : List (Option Nat)) (fr : Fr) (H : AHeap) (fr' : Fr) (H' : AHeap) : Prop where
  len : ρ.length = H'.length
  base : ∀ i,i < B → (ρ[i]?).join = some i
  nodup : (imgs ρ 0 H').Nodup
  heap : hle B H ρ (imgs ρ 0 H') 0 H'
  frame : fle H ρ (imgs ρ 0 H') fr fr'
  marks : ∀ m ∈ ms,(ρ[m]?).join = some m ∧ m < H'.length
theorem mem_imgs {ρ : List (Option Nat)} {j : Nat} : ∀ {H : AHeap} {s : Nat},j ∈ imgs ρ s H ↔ ∃ (i : Nat) (b : Blk),H[i]? = some b ∧ b.alive = true ∧ (ρ[s + i]?).join = some j
  | [],s => by simp [imgs]
  | c :: r,s => by
    have ih := mem_imgs (ρ := ρ) (j := j) (H := r) (s := s + 1)
    have key : (∃ (i : Nat) (b : Blk),(c :: r)[i]? = some b ∧ b.alive = true ∧ (ρ[s + i]?).join = some j) ↔ (c.alive = true ∧ (ρ[s]?).join = some j) ∨ ∃ (i : Nat) (b : Blk),r[i]? = some b ∧ b.alive = true ∧ (ρ[s + 1 + i]?).join = some j := by
      constructor
      · rintro ⟨i,b,hi,ha,hj⟩
        cases i with
        | zero => simp at hi; subst hi; exact .inl ⟨ha,by simpa using hj⟩
        | succ i => exact .inr ⟨i,b,by simpa using hi,ha,by rw [show s + 1 + i = s + (i + 1) by omega]; exact hj⟩
      · rintro (⟨ha,hj⟩ | ⟨i,b,hi,ha,hj⟩)
        · exact ⟨0,c,rfl,ha,by simpa using hj⟩
        · exact ⟨i + 1,b,by simpa using hi,ha,by rw [show s + (i + 1) = s + 1 + i by omega]; exact hj⟩
    rw [key,← ih,imgs]
    by_cases ha : c.alive = true
    · rw [if_pos ha]
      cases h : (ρ[s]?).join with
      | none => simp
      | some k =>
        simp only [List.mem_cons,Option.some.injEq,ha,true_and]
        constructor
        · rintro (h | h)
          · exact .inl h.symm
          · exact .inr h
        · rintro (h | h)
          · exact .inl h.symm
          · exact .inr h
    · rw [if_neg ha]; simp [ha]
theorem imgs_inj {ρ : List (Option Nat)} : ∀ {H : AHeap} {s : Nat},(imgs ρ s H).Nodup → ∀ {i k : Nat} {b c : Blk} {j : Nat},H[i]? = some b → H[k]? = some c → b.alive = true → c.alive = true → (ρ[s + i]?).join = some j → (ρ[s + k]?).join = some j → i = k
  | [],s,_,i,k,b,c,j,hi,_,_,_,_,_ => by simp at hi
  | d :: r,s,hn,i,k,b,c,j,hi,hk,ha,hc,hij,hkj => by
    have tailN : (imgs ρ (s + 1) r).Nodup := by
      unfold imgs at hn
      split at hn
      · split at hn
        · exact (List.nodup_cons.1 hn).2
        · exact hn
      · exact hn
    have head : d.alive = true → (ρ[s]?).join = some j → j ∉ imgs ρ (s + 1) r := fun h1 h2 => by
      unfold imgs at hn
      rw [if_pos h1,h2] at hn
      exact (List.nodup_cons.1 hn).1
    cases i with
    | zero =>
      cases k with
      | zero => rfl
      | succ k =>
        simp at hi; subst hi
        exact absurd (mem_imgs.2 ⟨k,c,by simpa using hk,hc,by rw [show s + 1 + k = s + (k + 1) by omega]; exact hkj⟩) (head ha (by simpa using hij))
    | succ i =>
      cases k with
      | zero =>
        simp at hk; subst hk
        exact absurd (mem_imgs.2 ⟨i,b,by simpa using hi,ha,by rw [show s + 1 + i = s + (i + 1) by omega]; exact hij⟩) (head hc (by simpa using hkj))
      | succ k =>
        have := imgs_inj tailN (i := i) (k := k) (by simpa using hi) (by simpa using hk) ha hc (by rw [show s + 1 + i = s + (i + 1) by omega]; exact hij) (by rw [show s + 1 + k = s + (k + 1) by omega]; exact hkj)
        omega
theorem hle_get {B : Nat} {H : AHeap} {ρ : List (Option Nat)} {img : List Nat} : ∀ {H' : AHeap} {s : Nat},hle B H ρ img s H' → ∀ {i : Nat} {b' : Blk},H'[i]? = some b' → hle B H ρ img (s + i) [b']
  | [],s,_,i,b',hi => by simp at hi
  | c :: r,s,h,i,b',hi => by
    cases i with
    | zero => simp at hi; subst hi; exact ⟨h.1,trivial⟩
    | succ i => rw [show s + (i + 1) = s + 1 + i by omega]; exact hle_get h.2 (by simpa using hi)
section
variable {B : Nat} {φ : Nat → Option Nat} {G : Nat → Prop} {H H' : AHeap} {w : World} {ρ : List (Option Nat)}
def wkφ (φ : Nat → Option Nat) (ρ : List (Option Nat)) : Nat → Option Nat := fun i => (ρ[i]?).join.bind φ
structure WkE (φ : Nat → Option Nat) (G : Nat → Prop) (H H' : AHeap) (w : World) (ρ : List (Option Nat)) : Prop where
  sim : SimH φ G H w
  len : ρ.length = H'.length
  noHole : ∀ i : Nat,H'[i]? ≠ some .hole
  live : ∀ (i : Nat) b',H'[i]? = some b' → b'.alive = true → ∀ j,(ρ[i]?).join = some j → ∃ b,H[j]? = some b ∧ b.alive = true
  nodup : (imgs ρ 0 H').Nodup
theorem WkE.dom (h : WkE φ G H H' w ρ) {i : Nat} (hi : i < ρ.length) : Dom H' i := by
  have hlt : i < H'.length := by rw [← h.len]; exact hi
  exact ⟨H'[i],by simp [hlt],fun he => h.noHole i (by rw [List.getElem?_eq_getElem hlt,he])⟩
theorem WkE.own (h : WkE φ G H H' w ρ) {r : Nat} (hr : Owned (wkφ φ ρ) H' r) : ∃ j b,j ∈ imgs ρ 0 H' ∧ H[j]? = some b ∧ b.alive = true ∧ φ j = some r := by
  obtain ⟨i,b',hi,ha,hq⟩ := hr
  unfold wkφ at hq
  cases hj : (ρ[i]?).join with
  | none => rw [hj] at hq; cases hq
  | some j =>
    rw [hj] at hq
    obtain ⟨b,hb,hba⟩ := h.live i b' hi ha j hj
    exact ⟨j,b,mem_imgs.2 ⟨i,b',hi,ha,by rw [Nat.zero_add]; exact hj⟩,hb,hba,hq⟩
theorem WkE.X (h : WkE φ G H H' w ρ) (r : Nat) (hr : (env (wkφ φ ρ) G H' w).X r) : (env φ G H w).X r := by
  rcases hr with hr | hr
  · exact .inl hr
  · obtain ⟨j,b,_,hb,hba,hq⟩ := h.own hr
    exact .inr ⟨j,b,hb,hba,hq⟩
theorem WkE.free (h : WkE φ G H H' w ρ) {i r : Nat} {cs : List AVal} (hi : H[i]? = some (.cells cs)) (hn : i ∉ imgs ρ 0 H') (hr : φ i = some r) : ¬ (env (wkφ φ ρ) G H' w).X r := by
  rintro (hg | ho)
  · exact h.sim.dis i _ r hi rfl hr hg
  · obtain ⟨j,b,hj,hb,hba,hq⟩ := h.own ho
    obtain rfl := h.sim.inj j i b _ r hb hi hba rfl hq hr
    exact hn hj
theorem WkE.closed (h : WkE φ G H H' w ρ) {v : AVal} {rv : Value} (hv : v.bnd 0 = true) (hr : Rep (env φ G H w) v rv) : Rep (env (wkφ φ ρ) G H' w) v rv :=
  hr.restrict (N := 0) (fun i _ hi => absurd hi (Nat.not_lt_zero i)) h.X rfl hv
theorem WkE.closedC (h : WkE φ G H H' w ρ) {cs : List AVal} {vs : Array Value} (hv : bndL 0 cs = true) (hr : ∀ (j : Nat) u,cs[j]? = some u → Rep (env φ G H w) u (vs.getD j undef)) : ∀ (j : Nat) u,cs[j]? = some u → Rep (env (wkφ φ ρ) G H' w) u (vs.getD j undef) :=
  fun j u hu => h.closed (bndL_mem hv u (List.mem_of_getElem? hu)) (hr j u hu)
theorem vleL_get {H : AHeap} {ρ : List (Option Nat)} {img : List Nat} {d : Nat} : ∀ {xs ys : List AVal},vle.vleL H ρ img d xs ys → xs.length = ys.length ∧ ∀ (j : Nat) u u',xs[j]? = some u → ys[j]? = some u' → vle H ρ img d u u'
  | [],[],_ => ⟨rfl,fun j u u' h => by simp at h⟩
  | x :: r,y :: s,h => by
    obtain ⟨h1,h2⟩ := h
    obtain ⟨h3,h4⟩ := vleL_get h2
    refine ⟨by simp [h3],fun j u u' hu hu' => ?_⟩
    cases j with
    | zero => simp at hu hu'; subst hu hu'; exact h1
    | succ j => exact h4 j u u' (by simpa using hu) (by simpa using hu')
  | [],_ :: _,h => h.elim
  | _ :: _,[],h => h.elim
theorem wk_list {d : Nat} (ih : ∀ v v' rv,vle H ρ (imgs ρ 0 H') d v v' → Rep (env φ G H w) v rv → Rep (env (wkφ φ ρ) G H' w) v' rv) {xs ys : List AVal} (hl : vle.vleL H ρ (imgs ρ 0 H') d xs ys) {vs : Array Value} (hs : vs.size = xs.length)
    (hr : ∀ (j : Nat) u,xs[j]? = some u → Rep (env φ G H w) u (vs.getD j undef)) : vs.size = ys.length ∧ ∀ (j : Nat) u,ys[j]? = some u → Rep (env (wkφ φ ρ) G H' w) u (vs.getD j undef) := by
  obtain ⟨h1,h2⟩ := vleL_get hl
  refine ⟨hs.trans h1,fun j u' hu' => ?_⟩
  have hlt : j < ys.length := (List.getElem?_eq_some_iff.1 hu').1
  have hlt' : j < xs.length := by omega
  exact ih xs[j] u' _ (h2 j _ _ (by simp [hlt']) hu') (hr j _ (by simp [hlt']))
theorem WkE.blockCells (h : WkE φ G H H' w ρ) {i r : Nat} {cs : List AVal} (hi : H[i]? = some (.cells cs)) (hr : φ i = some r) : ∀ (j : Nat) u,cs[j]? = some u → ∃ x,w.cell? ⟨r,j,none⟩ = some x ∧ Rep (env φ G H w) u x := by
  intro j u hu
  have hb := h.sim.blk i _ hi
  simp only [BlkRep,hr] at hb
  obtain ⟨c,e,hc,hl,hrep⟩ := hb
  have hc' : w.heap[r]? = some (.cells c e (0,0)) := hc
  have hlt : j < c.size := by have := (List.getElem?_eq_some_iff.1 hu).1; omega
  have := hrep j u hu
  rw [Array.getD_eq_getD_getElem?,Array.getElem?_eq_getElem hlt] at this
  exact ⟨c[j],by simp [World.cell?,hc',hlt],this⟩
theorem flat_get : ∀ {k : Nat} (xs : List AVal),szOk k xs → ∀ (i : Nat) (e : AVal),xs[i]? = some e → ∀ (j : Nat) u,e.cells[j]? = some u → (xs.flatMap AVal.cells)[i * k + j]? = some u
  | k,[],_,i,e,he,j,u,hu => by simp at he
  | k,x :: r,hz,i,e,he,j,u,hu => by
    have hx : x.cells.length = k := hz x (by simp)
    rw [List.flatMap_cons,List.getElem?_append]
    cases i with
    | zero =>
      simp at he; subst he
      obtain ⟨h1,h2⟩ := List.getElem?_eq_some_iff.1 hu
      simp [h1,h2]
    | succ i =>
      have h1 : ¬ (i + 1) * k + j < x.cells.length := by rw [hx,Nat.add_mul]; omega
      rw [if_neg h1,hx,show (i + 1) * k + j - k = i * k + j by rw [Nat.add_mul]; omega]
      exact flat_get r (fun e he => hz e (by simp [he])) i e (by simpa using he) j u hu
theorem vle_sound (h : WkE φ G H H' w ρ) : ∀ (d : Nat) (v v' : AVal) (rv : Value),vle H ρ (imgs ρ 0 H') d v v' → Rep (env φ G H w) v rv → Rep (env (wkφ φ ρ) G H' w) v' rv
  | 0,v,v',rv,hv,hr => by unfold vle at hv; subst hv; exact .any _
  | d + 1,v,v',rv,hv,hr => by
    have ih := vle_sound h d
    cases v' with
    | any => exact .any _
    | val a => unfold vle at hv; simp only at hv; subst hv; cases hr.inv_val; exact .val _
    | sl nn' t' xs' =>
      unfold vle at hv
      simp only at hv
      obtain ⟨hcl,hv⟩ := hv
      split at hv
      · rename_i nn t xs
        obtain ⟨h1,h2,rfl⟩ := hv
        have hr' := h.closed (v := .sl nn t xs) hcl hr
        cases hr' with
        | slnil t =>
          cases nn' with
          | false => exact .slnil t'
          | true => cases h1 rfl
        | sl0 _ a =>
          cases t' with
          | false => exact .sl0 nn' a
          | true => cases h2 rfl
        | sl _ _ _ b off cap k f h0 hb hl ht hk hc hr2 => exact .sl nn' t' xs b off cap k f h0 hb hl (fun ht' => ht (h2 ht')) hk hc hr2
      · obtain ⟨rfl,rfl⟩ := hv
        cases hr.inv_val
        exact .slnil t'
      · rename_i i off len lb k
        obtain ⟨rfl,rfl,rfl,hk0,hn,hlen,hsz,hv⟩ := hv
        split at hv
        case h_2 => exact hv.elim
        rename_i cs hi
        obtain ⟨hD,⟨hφ,_,rfl,_,a,rfl⟩ | ⟨r,cap,c,e,hφ,rfl,hc,hs,hlb,hle⟩⟩ := hr.inv_own
        · obtain rfl : xs' = [] := List.eq_nil_of_length_eq_zero hlen
          cases a with
          | none => exact .slnil false
          | some p => exact Rep.mk_sl_nil (fun h => by cases h)
        · have hφ' : φ i = some r := hφ
          refine Rep.mk_sl (k := k) hlen.symm hk0 (fun _ => h.free hi hn hφ') (by omega) (fun h => by cases h) (fun j e he => hsz e (List.mem_of_getElem? he)) (fun j e he q u hu => ?_)
          have h1 := flat_get xs' hsz j e he q u hu
          rw [← hv,List.getElem?_take] at h1
          split at h1
          case isFalse => cases h1
          obtain ⟨x,hx,hrep⟩ := h.blockCells hi hφ' _ u h1
          refine ⟨x,by rw [show 0 + j * k + q = j * k + q by omega]; exact hx,h.closed ?_ hrep⟩
          exact bnd_cells (bndL_mem hcl e (List.mem_of_getElem? he)) u (List.mem_of_getElem? hu)
      · exact hv.elim
    | rp cs' =>
      unfold vle at hv
      simp only at hv
      obtain ⟨hcl,hv⟩ := hv
      split at hv
      · subst hv; exact h.closed hcl hr
      · rename_i i off
        obtain ⟨hn,hne,hv⟩ := hv
        split at hv
        case h_2 => exact hv.elim
        rename_i cs hi
        obtain ⟨r,rfl,hD,hφ⟩ := hr.inv_ptr
        have hφ' : φ i = some r := hφ
        refine Rep.mk_rp hne (h.free hi hn hφ') (fun j u hu => ?_)
        rw [← hv,List.getElem?_take] at hu
        split at hu
        case isFalse => cases hu
        rename_i hjl
        rw [List.getElem?_drop] at hu
        obtain ⟨x,hx,hrep⟩ := h.blockCells hi hφ' _ u hu
        refine ⟨x,hx,h.closed ?_ hrep⟩
        have hu' : cs'[j]? = some u := by
          rw [← hv,List.getElem?_take,if_pos hjl,List.getElem?_drop]; exact hu
        exact bndL_mem hcl u (List.mem_of_getElem? hu')
      · exact hv.elim
    | own i' off' len' lb' k' =>
      unfold vle at hv
      simp only at hv
      obtain ⟨hlt,hv⟩ := hv
      split at hv
      · rename_i i off len lb k
        obtain ⟨hρ,rfl,rfl,hlb',rfl⟩ := hv
        obtain ⟨hD,⟨hφ,rfl,rfl,rfl,a,rfl⟩ | ⟨r,cap,c,e,hφ,rfl,hc,hs,hlb,hle⟩⟩ := hr.inv_own
        · obtain rfl : lb' = 0 := by omega
          refine .ownnil i' k a (h.dom hlt) ?_
          show (ρ[i']?).join.bind φ = none
          rw [hρ]; exact hφ
        · refine .own i' off len lb' k r cap c e (h.dom hlt) ?_ hc hs (by omega) hle
          show (ρ[i']?).join.bind φ = some r
          rw [hρ]; exact hφ
      · obtain ⟨hρ,rfl,rfl,rfl⟩ := hv
        cases hr.inv_val
        refine .ownnil i' k' none (h.dom hlt) ?_
        show (ρ[i']?).join.bind φ = none
        rw [hρ]; rfl
      · exact hv.elim
    | ptr i' off' =>
      unfold vle at hv
      simp only at hv
      obtain ⟨hlt,hv⟩ := hv
      split at hv
      case h_2 => exact hv.elim
      obtain ⟨hρ,rfl⟩ := hv
      obtain ⟨r,rfl,hD,hφ⟩ := hr.inv_ptr
      refine .ptr i' _ r (h.dom hlt) ?_
      show (ρ[i']?).join.bind φ = some r
      rw [hρ]; exact hφ
    | yld i' =>
      unfold vle at hv
      simp only at hv
      obtain ⟨hlt,hv⟩ := hv
      split at hv
      case h_2 => exact hv.elim
      obtain ⟨r,rfl,hD,hφ⟩ := hr.inv_yld
      refine .yld i' r (h.dom hlt) ?_
      show (ρ[i']?).join.bind φ = some r
      rw [hv]; exact hφ
    | mp i' =>
      unfold vle at hv
      simp only at hv
      obtain ⟨hlt,hv⟩ := hv
      split at hv
      case h_2 => exact hv.elim
      obtain ⟨r,rfl,hD,hφ⟩ := hr.inv_mp
      refine .mp i' r (h.dom hlt) ?_
      show (ρ[i']?).join.bind φ = some r
      rw [hv]; exact hφ
    | fn f' a' b' =>
      unfold vle at hv
      simp only at hv
      split at hv
      case h_2 => exact hv.elim
      obtain ⟨rfl,ha,hb⟩ := hv
      obtain ⟨fs,cs,rfl,h1,h2,r1,r2⟩ := hr.inv_fn
      obtain ⟨s1,q1⟩ := wk_list ih ha h1 r1
      obtain ⟨s2,q2⟩ := wk_list ih hb h2 r2
      exact .fn _ _ _ _ _ s1 s2 q1 q2
    | agg cs' =>
      unfold vle at hv
      simp only at hv
      split at hv
      case h_2 => exact hv.elim
      rename_i cs
      rcases hv with ⟨rfl,hcl⟩ | hv
      · exact h.closed (v := .agg cs) hcl hr
      · obtain ⟨vs,rfl,h1,r1⟩ := hr.inv_agg
        obtain ⟨s1,q1⟩ := wk_list ih hv h1 r1
        exact .agg _ _ s1 q1
    | tup vs' =>
      unfold vle at hv
      simp only at hv
      split at hv
      case h_2 => exact hv.elim
      obtain ⟨vs,rfl,h1,r1⟩ := hr.inv_tup
      obtain ⟨s1,q1⟩ := wk_list ih hv h1 r1
      exact .tup _ _ s1 q1
theorem Wk.wkE {ms : List Nat} {fr fr' : Fr} (h : Wk B ms ρ fr H fr' H') (hs : SimH φ G H w) : WkE φ G H H' w ρ := by
  refine ⟨hs,h.len,fun i hi => ?_,fun i b' hi ha j hj => ?_,h.nodup⟩
  · have := hle_get h.heap hi
    exact this.1
  · have := (hle_get h.heap hi).1
    rw [Nat.zero_add] at this
    cases b' with
    | hole => cases ha
    | dead => cases ha
    | cells cs' =>
      simp only [hj] at this
      split at this
      · rename_i cs hc; exact ⟨_,hc,rfl⟩
      · exact this.elim
    | defs =>
      obtain ⟨h1,h2⟩ := this
      rw [h1] at hj; cases hj
      exact ⟨_,h2,rfl⟩
    | map es =>
      obtain ⟨_,h2⟩ := this
      simp only [hj] at h2
      exact ⟨_,h2,rfl⟩
    | iter m n' seen =>
      obtain ⟨_,h2⟩ := this
      rw [hj] at h2
      cases hm : (ρ[m]?).join with
      | none => rw [hm] at h2; exact h2.elim
      | some q => rw [hm] at h2; exact ⟨_,h2,rfl⟩
    | loop st pend f n ps as bd =>
      obtain ⟨h1,h2,_⟩ := this
      rw [h.base i h1] at hj; cases hj
      exact ⟨_,h2,rfl⟩
theorem Wk.simH {ms : List Nat} {fr fr' : Fr} (h : Wk B ms ρ fr H fr' H') (hs : SimH φ G H w) : SimH (wkφ φ ρ) G H' w := by
  have hE := h.wkE hs
  have im : ∀ {i : Nat} {b' : Blk} {r : Nat},H'[i]? = some b' → b'.alive = true → wkφ φ ρ i = some r → ∃ j b,(ρ[i]?).join = some j ∧ H[j]? = some b ∧ b.alive = true ∧ φ j = some r := by
    intro i b' r hi ha hr
    unfold wkφ at hr
    cases hj : (ρ[i]?).join with
    | none => rw [hj] at hr; cases hr
    | some j =>
      rw [hj] at hr
      obtain ⟨b,hb,hba⟩ := hE.live i b' hi ha j hj
      exact ⟨j,b,rfl,hb,hba,hr⟩
  refine ⟨hs.glt,fun i k b c r hi hk ha hc hir hkr => ?_,fun i b r hi ha hr => ?_,fun i b' hi => ?_⟩
  · obtain ⟨j,bj,hj,hbj,haj,hjr⟩ := im hi ha hir
    obtain ⟨q,bq,hq,hbq,haq,hqr⟩ := im hk hc hkr
    obtain rfl := hs.inj j q _ _ r hbj hbq haj haq hjr hqr
    exact imgs_inj h.nodup hi hk ha hc (by rw [Nat.zero_add]; exact hj) (by rw [Nat.zero_add]; exact hq)
  · obtain ⟨j,bj,hj,hbj,haj,hjr⟩ := im hi ha hr
    exact hs.dis j bj r hbj haj hjr
  · have hh := (hle_get h.heap hi).1
    rw [Nat.zero_add] at hh
    cases b' with
    | hole => exact hh.elim
    | dead => trivial
    | cells cs' =>
      simp only at hh
      cases hj : (ρ[i]?).join with
      | none =>
        rw [hj] at hh
        have : wkφ φ ρ i = none := by unfold wkφ; rw [hj]; rfl
        rw [this]; exact hh
      | some j =>
        rw [hj] at hh
        simp only at hh
        split at hh
        case h_2 => exact hh.elim
        rename_i cs hc
        have hφi : wkφ φ ρ i = φ j := by unfold wkφ; rw [hj]; rfl
        rw [hφi]
        have hb := hs.blk j _ hc
        cases hφ : φ j with
        | none =>
          rw [hφ] at hb
          have hnil : cs = [] := hb
          subst hnil
          rcases hh with ⟨rfl,_⟩ | hh
          · rfl
          · have := (vleL_get hh).1
            exact List.eq_nil_of_length_eq_zero this.symm
        | some r =>
          simp only [BlkRep,hφ] at hb ⊢
          obtain ⟨c,e,hc',hl,hr⟩ := hb
          rcases hh with ⟨rfl,hcl⟩ | hh
          · exact ⟨c,e,hc',hl,hE.closedC hcl hr⟩
          · obtain ⟨hlen,hget⟩ := vleL_get hh
            refine ⟨c,e,hc',by omega,fun q u' hu' => ?_⟩
            have hlt : q < cs'.length := (List.getElem?_eq_some_iff.1 hu').1
            have hlt' : q < cs.length := by omega
            exact vle_sound hE 2 cs[q] u' _ (hget q cs[q] u' (by simp [hlt']) hu') (hr q cs[q] (by simp [hlt']))
    | defs =>
      obtain ⟨h1,h2⟩ := hh
      obtain ⟨r,hr,hw⟩ := hs.blk i _ h2
      exact ⟨r,by show (ρ[i]?).join.bind φ = some r; rw [h1]; exact hr,hw⟩
    | map es =>
      obtain ⟨hcl,h2⟩ := hh
      cases hj : (ρ[i]?).join with
      | none => rw [hj] at h2; exact h2.elim
      | some j =>
        rw [hj] at h2
        obtain ⟨r,c,hr,hw,hsz,hre⟩ := hs.blk j _ h2
        refine ⟨r,c,by show (ρ[i]?).join.bind φ = some r; rw [hj]; exact hr,hw,hsz,fun q p hq => ?_⟩
        obtain ⟨e,he,hbn,h3,h4⟩ := hre q p hq
        have := List.all_eq_true.1 hcl p (List.mem_of_getElem? hq)
        rw [Bool.and_eq_true] at this
        exact ⟨e,he,hbn,hE.closed this.1 h3,hE.closed this.2 h4⟩
    | iter m n' seen =>
      obtain ⟨hml,h2⟩ := hh
      cases hj : (ρ[i]?).join with
      | none => rw [hj] at h2; exact h2.elim
      | some j =>
        cases hm : (ρ[m]?).join with
        | none => rw [hj,hm] at h2; exact h2.elim
        | some q =>
          rw [hj,hm] at h2
          obtain ⟨r,rm,hr,hD,hφm,hw⟩ := hs.blk j _ h2
          exact ⟨r,rm,by show (ρ[i]?).join.bind φ = some r; rw [hj]; exact hr,hE.dom hml,by show (ρ[m]?).join.bind φ = some rm; rw [hm]; exact hφm,hw⟩
    | loop st pend f n ps as bd =>
      obtain ⟨h1,h2,h3⟩ := hh
      obtain ⟨r,fn,tmps,D,hr,hw,hn,hf⟩ := hs.blk i _ h2
      refine ⟨r,fn,tmps,D,by show (ρ[i]?).join.bind φ = some r; rw [h.base i h1]; exact hr,hw,hn,fun t => ?_⟩
      refine (hf t).restrict (N := B) (fun q hq hqB => ⟨hE.dom (by
        have := h.base q hqB
        rcases Nat.lt_or_ge q ρ.length with hl | hl
        · exact hl
        · rw [List.getElem?_eq_none hl] at this; cases this),?_⟩) hE.X rfl (h3 t)
      show (ρ[q]?).join.bind φ = φ q
      rw [h.base q hqB]; rfl
theorem Wk.sound {ms : List Nat} {fr fr' : Fr} (h : Wk B ms ρ fr H fr' H') {n : Nat} {a : Act} (hs : SimS B φ G fr H ms n a w) : SimS B (wkφ φ ρ) G fr' H' ms n a w ∧ StepR B φ H w (wkφ φ ρ) H' w := by
  have hE := h.wkE hs.sim
  have hBl : B ≤ H'.length := by
    rw [← h.len]
    rcases Nat.eq_zero_or_pos B with h0 | h0
    · omega
    · have := h.base (B - 1) (by omega)
      rcases Nat.lt_or_ge (B - 1) ρ.length with hl | hl
      · omega
      · rw [List.getElem?_eq_none hl] at this; cases this
  refine ⟨⟨h.simH hs.sim,?_,hs.sz,?_,fun m hm => hE.dom (by rw [h.len]; exact (h.marks m hm).2),hBl⟩,⟨fun i hi => ?_,fun i hi hd => hE.dom (by rw [h.len]; omega),fun _ => hBl,fun r hr => ?_,fun _ _ _ => rfl,fun r c e f hc => ⟨c,hc,rfl⟩,Nat.le_refl _,rfl,rfl,rfl,Nat.le_refl _⟩⟩
  · have key : ∀ (f : Fr),fle H ρ (imgs ρ 0 H') fr f → FrRep (env (wkφ φ ρ) G H' w) f a.tmps := by
      intro f
      induction f with
      | nil => intro _ t; exact .any _
      | cons p r ih =>
        intro hf t
        obtain ⟨h1,h2⟩ := hf
        simp only [Fr.get]
        split
        · rename_i heq; subst heq; exact vle_sound hE 3 _ _ _ h1 (hs.fr _)
        · exact ih h2 t
    exact key fr' h.frame
  · rw [hs.df]
    exact (marksV_congr fun m hm => by unfold wkφ; rw [(h.marks m hm).1]; rfl).symm
  · unfold wkφ; rw [h.base i hi]; rfl
  · obtain ⟨j,b,_,hb,hba,hq⟩ := hE.own hr
    exact .inl ⟨j,b,hb,hba,hq⟩
end
end Go.Abs
