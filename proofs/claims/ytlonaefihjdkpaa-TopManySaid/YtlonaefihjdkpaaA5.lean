/- The operations that build,make and write. -/
import Derived.Test.YtlonaefihjdkpaaA4
import Derived.Laws.Append
namespace Go.Abs
open AVal
def CRep (E : Env) (cs : List AVal) (vs : Array Value) : Prop := vs.size = cs.length ∧ ∀ (j : Nat) u,cs[j]? = some u → Rep E u (vs.getD j undef)
section
variable {P : Program} {E : Env}
theorem Rep.one {v : AVal} {rv : Value} (hv : v.isCell = true) (h : Rep E v rv) : rv.oneCell' = true ∧ rv.cells = #[rv] := by
  have key : rv.oneCell' = true := by
    cases h <;> first | rfl | (simp [AVal.isCell] at hv; done) | exact hv
  exact ⟨key,by cases rv <;> first | rfl | cases key⟩
theorem cellsOk_all {v : AVal} (hv : v.cellsOk = true) : ∀ u ∈ v.cells,u.isCell = true := by
  cases v <;> simp_all [AVal.cellsOk,AVal.cells,AVal.isCell]
theorem Rep.cellsRep {v : AVal} {rv : Value} (hv : v.isCell = true ∨ ∃ cs,v = .agg cs) (h : Rep E v rv) : CRep E v.cells rv.cells := by
  rcases hv with hv | ⟨cs,rfl⟩
  · have hc : v.cells = [v] := by cases v <;> first | rfl | (simp [AVal.isCell] at hv; done)
    rw [hc,(h.one hv).2]
    refine ⟨rfl,fun j u hu => ?_⟩
    cases j with
    | zero => simp at hu; subst hu; exact h
    | succ j => simp at hu
  · obtain ⟨vs,rfl,hs,hr⟩ := h.inv_agg
    exact ⟨hs,hr⟩
theorem cellsOk_or {v : AVal} (hv : v.cellsOk = true) : v.isCell = true ∨ ∃ cs,v = .agg cs := by
  cases v <;> simp_all [AVal.cellsOk,AVal.isCell]
theorem CRep.get {cs : List AVal} {vs : Array Value} (h : CRep E cs vs) {j : Nat} (hj : j < vs.size) : Rep E (cs[j]'(by rw [← h.1]; exact hj)) vs[j] := by
  have hj' : j < cs.length := by rw [← h.1]; exact hj
  have := h.2 j cs[j] (by simp [hj'])
  rwa [Array.getD_eq_getD_getElem?,Array.getElem?_eq_getElem hj] at this
theorem CRep.of {cs : List AVal} {vs : Array Value} (hs : vs.size = cs.length) (h : ∀ j (hj : j < vs.size) (hj' : j < cs.length),Rep E cs[j] vs[j]) : CRep E cs vs :=
  ⟨hs,fun j u hu => by
    obtain ⟨hj',rfl⟩ := List.getElem?_eq_some_iff.1 hu
    have hj : j < vs.size := by omega
    rw [Array.getD_eq_getD_getElem?,Array.getElem?_eq_getElem hj]
    exact h j hj hj'⟩
theorem CRep.append {a b : List AVal} {x y : Array Value} (h1 : CRep E a x) (h2 : CRep E b y) : CRep E (a ++ b) (x ++ y) := by
  refine .of (by simp [h1.1,h2.1]) (fun j hj hj' => ?_)
  have e1 := h1.1
  have e2 := h2.1
  by_cases h : j < a.length
  · rw [List.getElem_append_left h,Array.getElem_append_left (by omega)]
    exact h1.get (by omega)
  · have h3 : a.length ≤ j := by omega
    have h4 : x.size ≤ j := by omega
    rw [List.getElem_append_right h3,Array.getElem_append_right h4]
    have h5 : j - x.size < y.size := by simp at hj; omega
    have := h2.get h5
    simp only [e1] at this ⊢
    exact this
theorem CRep.cutOut {cs : List AVal} {vs : Array Value} (h : ∀ (j : Nat) u,cs[j]? = some u → Rep E u (vs.getD j undef)) {o n : Nat} (h1 : o + n ≤ cs.length) (h2 : cs.length ≤ vs.size) : CRep E ((cs.drop o).take n) (vs.extract o (o + n)) := by
  refine .of (by simp; omega) (fun j hj hj' => ?_)
  have hj2 : o + j < cs.length := by simp at hj'; omega
  have := h (o + j) cs[o + j] (by simp [hj2])
  have h3 : o + j < vs.size := by omega
  rw [Array.getD_eq_getD_getElem?,Array.getElem?_eq_getElem h3] at this
  simpa using this
theorem CRep.oneCells {cs : List AVal} {vs : Array Value} (h : CRep E cs vs) (hc : ∀ u ∈ cs,u.isCell = true) : ∀ v ∈ vs.toList,v.oneCell' = true := by
  intro v hv
  obtain ⟨j,hj,rfl⟩ := List.getElem_of_mem hv
  have hj' : j < vs.size := by simpa using hj
  have := h.get hj'
  simpa using (this.one (hc _ (List.getElem_mem _))).1
theorem CRep.mono {E' : Env} (hE : E.Le E') {cs : List AVal} {vs : Array Value} (h : CRep E cs vs) : CRep E' cs vs := ⟨h.1,fun j u hu => (h.2 j u hu).mono hE⟩
/-! ### fill -/
theorem foldl_put (off : Nat) : ∀ (l : List Value) (j : Nat) (cs : Array Value),off + j + l.length ≤ cs.size →
    ((l.zipIdx j).foldl (fun cs (c,j) => cs.setIfInBounds (off + j) c) cs) = (cs.toList.take (off + j) ++ l ++ cs.toList.drop (off + j + l.length)).toArray
  | [],j,cs,_ => by simp
  | v :: r,j,cs,h => by
    have hlt : off + j < cs.size := by simp at h; omega
    simp only [List.zipIdx_cons,List.foldl_cons]
    rw [foldl_put off r (j + 1) _ (by simp at h ⊢; omega)]
    congr 1
    have e := list_seg_step cs.toList (off + j) v r (by simp at h ⊢; omega)
    simpa [Array.toList_setIfInBounds,Nat.add_assoc] using e
theorem CRep.splice {cs xs : List AVal} {vs ys : Array Value} (h : CRep E cs vs) (hx : CRep E xs ys) {off : Nat} (hl : off + xs.length ≤ cs.length) :
    CRep E (cs.take off ++ xs ++ cs.drop (off + xs.length)) (vs.toList.take off ++ ys.toList ++ vs.toList.drop (off + ys.size)).toArray := by
  have e1 := h.1
  have e2 := hx.1
  have h1 : CRep E (cs.take off) (vs.toList.take off).toArray := .of (by simp [e1]) (fun j hj hj' => by
    have := h.get (j := j) (by simp at hj'; omega)
    simpa using this)
  have h2 : CRep E (cs.drop (off + xs.length)) (vs.toList.drop (off + ys.size)).toArray := .of (by simp [e1,e2]) (fun j hj hj' => by
    have := h.get (j := off + xs.length + j) (by simp at hj'; omega)
    simpa [e2] using this)
  have := (h1.append hx).append h2
  have e : (vs.toList.take off).toArray ++ ys ++ (vs.toList.drop (off + ys.size)).toArray = (vs.toList.take off ++ ys.toList ++ vs.toList.drop (off + ys.size)).toArray := by
    apply Array.ext'; simp
  rw [← e]; exact this
inductive PRep (E : Env) (place : Nat → Option (Nat × Nat)) : List (Nat × Nat × AVal) → List (Nat × Value) → Prop
  | nil : PRep E place [] []
  | cons {off size i : Nat} {v : AVal} {rv : Value} {ps : List (Nat × Nat × AVal)} {rs : List (Nat × Value)} (hp : place i = some (off,size)) (hr : Rep E v rv) (h : PRep E place ps rs) :
      PRep E place ((off,size,v) :: ps) ((i,rv) :: rs)
theorem fillA_length : ∀ (ps : List (Nat × Nat × AVal)) (cs : List AVal),fillOk cs.length ps = true → (fillA cs (ps.map fun p => (p.1,p.2.2))).length = cs.length
  | [],cs,_ => rfl
  | (off,size,v) :: ps,cs,h => by
    simp only [fillOk,Bool.and_eq_true,decide_eq_true_eq,beq_iff_eq] at h
    have hlen : (cs.take off ++ v.cells ++ cs.drop (off + v.cells.length)).length = cs.length := by simp; omega
    simp only [List.map_cons,fillA]
    rw [fillA_length ps _ (by rw [hlen]; exact h.2),hlen]
theorem fill_sound {place : Nat → Option (Nat × Nat)} {ps : List (Nat × Nat × AVal)} {rs : List (Nat × Value)} (h : PRep E place ps rs) : ∀ {cs : List AVal} {vs : Array Value},CRep E cs vs → fillOk cs.length ps = true →
    ∃ out,Instr.fill place vs rs = some out ∧ CRep E (fillA cs (ps.map fun p => (p.1,p.2.2))) out := by
  induction h with
  | nil => intro cs vs hc _; exact ⟨vs,rfl,hc⟩
  | @cons off size i v rv ps rs hp hr _ ih =>
    intro cs vs hc hok
    simp only [fillOk,Bool.and_eq_true,decide_eq_true_eq,beq_iff_eq] at hok
    obtain ⟨⟨⟨hz,hfit⟩,hv⟩,hrest⟩ := hok
    have hv' : v.isCell = true ∨ ∃ cs,v = .agg cs := by
      cases v with
      | agg cs => exact .inr ⟨cs,rfl⟩
      | _ => exact .inl hv
    have hcr := hr.cellsRep hv'
    have e1 := hc.1
    have e2 := hcr.1
    have hsp := hc.splice hcr (off := off) (by omega)
    obtain ⟨out,ho,hco⟩ := ih hsp (by
      have : (cs.take off ++ v.cells ++ cs.drop (off + v.cells.length)).length = cs.length := by simp; omega
      rw [this]; exact hrest)
    refine ⟨out,?_,hco⟩
    have hfold := foldl_put off rv.cells.toList 0 vs (by simp; omega)
    have h1 : ¬ (rv.cells.size ≠ size || off + rv.cells.size > vs.size) = true := by simp; omega
    simp only [Instr.fill,hp]
    rw [if_neg h1]
    have h2 : (rv.cells.zipIdx.foldl (fun cs (c,j) => cs.setIfInBounds (off + j) c) vs) = (vs.toList.take off ++ rv.cells.toList ++ vs.toList.drop (off + rv.cells.size)).toArray := by
      rw [← Array.foldl_toList,Array.toList_zipIdx]
      simpa using hfold
    rw [h2]; exact ho
theorem zero_rep {t : TypeId} {z : List AVal} (h : tZero P t = some z) : ∃ (i : TypeInfo) (v : Value),P.info? t = some i ∧ i.zero = some v ∧ CRep E z v.cells := by
  unfold tZero at h
  cases hi : P.info? t with
  | none => simp [hi] at h
  | some i =>
    cases hz : i.zero with
    | none => simp [hi,hz] at h
    | some v =>
      simp [hi,hz] at h
      subst h
      exact ⟨i,v,rfl,hz,.of (by simp) (fun j hj hj' => by simpa using .val _)⟩
theorem trParts_rep {place : Nat → Option (Nat × Nat)} {ρ : Operand → Value} {fr : Fr} (hρ : ∀ x ix,trO x = some ix → Rep E (ix.ev fr) (ρ x)) : ∀ (l : List (Nat × Operand)) (ps : List (Nat × Nat × IOpd)),trParts place l = some ps →
    PRep E place (ps.map fun p => (p.1,p.2.1,p.2.2.ev fr)) (l.map fun (i,x) => (i,ρ x))
  | [],ps,h => by simp [trParts] at h; subst h; exact .nil
  | (i,x) :: r,ps,h => by
    simp only [trParts,Option.bind_eq_bind,Option.bind_eq_some_iff] at h
    obtain ⟨⟨off,size⟩,hp,ix,hx,ps',hps,h⟩ := h
    simp at h
    subst h
    exact .cons hp (hρ x ix hx) (trParts_rep hρ r ps' hps)
theorem fieldPlaces_mapM : ∀ (fs : List Field) (pl : List (Nat × Nat)),fieldPlaces P fs = some pl → fs.mapM (fun f => (P.info? f.type).map fun i => (f.offset,i.size)) = some pl
  | [],pl,h => by simp [fieldPlaces] at h; subst h; rfl
  | f :: fs,pl,h => by
    simp only [fieldPlaces,Option.bind_eq_bind,Option.bind_eq_some_iff] at h
    obtain ⟨k,hk,pl',hpl,h⟩ := h
    simp at h
    subst h
    have ih := fieldPlaces_mapM fs pl' hpl
    unfold tSize at hk
    cases hi : P.info? f.type with
    | none => simp [hi] at hk
    | some i => simp [hi] at hk; simp [List.mapM_cons,hi,ih,hk]
theorem build_struct_sound {t : TypeId} {fs : Array Field} (ht : P.underlying t = some (.struct fs)) {z : List AVal} (hz : tZero P t = some z) {pl : List (Nat × Nat)} (hpl : fieldPlaces P fs.toList = some pl)
    {ps : List (Nat × Nat × AVal)} {rs : Array (Nat × Value)} (hr : PRep E (pl[·]?) ps rs.toList) (hok : fillOk z.length ps = true) :
    ∃ rv,(Instr.build t rs).run P E.w = .ok rv E.w ∧ Rep E (.agg (fillA z (ps.map fun p => (p.1,p.2.2)))) rv := by
  obtain ⟨i,v,hi,hiz,hc⟩ := zero_rep (E := E) hz
  obtain ⟨out,ho,hco⟩ := fill_sound hr hc hok
  have hm := fieldPlaces_mapM _ _ hpl
  have hb : P.built t rs.toList = some out := by
    unfold Program.built
    simp only [hi,ht,hiz,hm]
    simpa using ho
  exact ⟨.agg out,run_build E.w t rs out hb,.agg _ _ hco.1 hco.2⟩
theorem build_array_sound {t e : TypeId} {n k : Nat} (ht : P.underlying t = some (.array n e)) {z : List AVal} (hz : tZero P t = some z) (hk : tSize P e = some k)
    {ps : List (Nat × Nat × AVal)} {rs : Array (Nat × Value)} (hr : PRep E (fun i => some (i * k,k)) ps rs.toList) (hok : fillOk z.length ps = true) :
    ∃ rv,(Instr.build t rs).run P E.w = .ok rv E.w ∧ Rep E (.agg (fillA z (ps.map fun p => (p.1,p.2.2)))) rv := by
  obtain ⟨i,v,hi,hiz,hc⟩ := zero_rep (E := E) hz
  obtain ⟨out,ho,hco⟩ := fill_sound hr hc hok
  unfold tSize at hk
  cases hie : P.info? e with
  | none => simp [hie] at hk
  | some ie =>
    simp [hie] at hk
    have hb : P.built t rs.toList = some out := by
      unfold Program.built
      simp only [hi,ht,hiz,hie,hk]
      exact ho
    exact ⟨.agg out,run_build E.w t rs out hb,.agg _ _ hco.1 hco.2⟩
end
section
variable {P : Program} {B : Nat} {G : Nat → Prop} {φ : Nat → Option Nat} {H : AHeap} {w : World}
theorem nx_row (hs : SimH φ G H w) {i : Nat} {cs : List AVal} {H' : AHeap} (hn : NewAt H i (.cells cs) H') (hB : B ≤ i) {c : Array Value} {t : TypeId} (hl : cs.length ≤ c.size)
    (hc : ∀ (j : Nat) u,cs[j]? = some u → Rep (env φ G H w) u (c.getD j undef)) : Nx B G φ H w (up φ i (some w.heap.size)) H' (w.alloc (.cells c t)) := by
  refine nx_alloc hs hn hB (fun E hE hw => ?_)
  refine ⟨c,t,?_,hl,fun j u hu => (hc j u hu).mono hE⟩
  rw [hw]
  show (w.heap.push _)[w.heap.size]? = _
  simp
theorem dom_new {i : Nat} {b : Blk} {H' : AHeap} (hn : NewAt H i b H') (hb : b ≠ .hole) : Dom H' i := ⟨b,by rw [hn.get]; simp,hb⟩
theorem alloc_sound (hs : SimH φ G H w) {i : Nat} {z : List AVal} {H' : AHeap} (hn : NewAt H i (.cells z) H') (hB : B ≤ i) {t : TypeId} (hz : tZero P t = some z) :
    ∃ rv w' φ',(Instr.alloc t true (.tuple #[])).run P w = .ok rv w' ∧ Nx B G φ H w φ' H' w' ∧ Rep (env φ' G H' w') (.ptr i 0) rv := by
  obtain ⟨ti,v,hi,hiz,hc⟩ := zero_rep (E := env φ G H w) hz
  refine ⟨_,_,_,?_,nx_row hs hn hB (c := v.cells) (t := t) (by have := hc.1; omega) hc.2,.ptr i 0 w.heap.size (dom_new hn (by simp)) (up_same _ _ _)⟩
  simp [Instr.alloc,zeroValue,typeInfo,hi,hiz,newVar,newRow]
theorem box_sound (hs : SimH φ G H w) {i : Nat} {v : AVal} {rv : Value} {H' : AHeap} (hn : NewAt H i (.cells v.cells) H') (hB : B ≤ i) {t : TypeId} (hv : v.cellsOk = true) (hr : Rep (env φ G H w) v rv) :
    ∃ rp w' φ',(Instr.box t rv).run P w = .ok rp w' ∧ Nx B G φ H w φ' H' w' ∧ Rep (env φ' G H' w') (.ptr i 0) rp := by
  have hc := hr.cellsRep (cellsOk_or hv)
  refine ⟨_,_,_,?_,nx_row hs hn hB (c := rv.cells) (t := t) (by have := hc.1; omega) hc.2,.ptr i 0 w.heap.size (dom_new hn (by simp)) (up_same _ _ _)⟩
  simp [Instr.box,newVar,newRow]
theorem zeros_length (z : List AVal) (n : Nat) : (zeros z n).length = n * z.length := by
  unfold zeros
  split
  · simp
  · simp [List.length_flatten]
theorem zeros_get : ∀ (z : List AVal) (n j : Nat),j < n * z.length → (zeros z n)[j]? = z[j % z.length]? := by
  intro z n j hj
  have hz : 0 < z.length := by
    rcases Nat.eq_zero_or_pos z.length with h | h
    · rw [h] at hj; simp at hj
    · exact h
  unfold zeros
  split
  · rename_i u
    simp at hj
    simp [hj,Nat.mod_one]
  · induction n generalizing j with
    | zero => simp at hj
    | succ n ih =>
      rw [List.replicate_succ,List.flatten_cons,List.getElem?_append]
      by_cases h : j < z.length
      · simp [h,Nat.mod_eq_of_lt h]
      · have hjj : j - z.length < n * z.length := by rw [Nat.add_mul] at hj; omega
        rw [if_neg h,ih _ hjj]
        congr 1
        rw [← Nat.mod_eq_sub_mod (by omega)]
theorem map_range_zero (f : Nat → Value) : (Array.range 0).map f = #[] := Array.eq_empty_of_size_eq_zero (by simp)
theorem zeros_rep {E : Env} {z : List AVal} {zv : Array Value} (h : CRep E z zv) (n : Nat) : CRep E (zeros z n) ((Array.range (n * zv.size)).map (zv[· % zv.size]!)) := by
  have e := h.1
  refine ⟨by simp [zeros_length,e],fun j u hu => ?_⟩
  have hj : j < n * z.length := by
    rw [← zeros_length]; exact (List.getElem?_eq_some_iff.1 hu).1
  rw [zeros_get z n j hj] at hu
  have hm : j % z.length < z.length := Nat.mod_lt _ (by rcases Nat.eq_zero_or_pos z.length with h | h; · rw [h] at hj; simp at hj
                                                        · exact h)
  have := h.2 _ u hu
  have hlt : j < n * zv.size := by rw [e]; exact hj
  have h1 : ((Array.range (n * zv.size)).map (zv[· % zv.size]!)).getD j undef = zv[j % zv.size]! := by
    simp [hlt]
  rw [h1,e,getElem!_pos zv _ (by rw [e]; exact hm)]
  rwa [Array.getD_eq_getD_getElem?,Array.getElem?_eq_getElem (by rw [e]; exact hm)] at this
theorem bslice_sound (hs : SimH φ G H w) {i k len : Nat} {z : List AVal} {ps : List (Nat × Nat × AVal)} {rs : Array (Nat × Value)} {H' : AHeap} (hn : NewAt H i (.cells (fillA (zeros z len) (ps.map fun p => (p.1,p.2.2)))) H') (hB : B ≤ i)
    {t e : TypeId} (ht : P.underlying t = some (.slice e)) (hk : tSize P e = some k) (hz : tZero P e = some z) (hzk : z.length = k) (hsm : ¬ len * k > 2 ^ 24)
    (hr : PRep (env φ G H w) (fun i => some (i * k,k)) ps rs.toList) (hok : fillOk (len * k) ps = true) :
    ∃ rv w' φ',(Instr.buildSlice t len rs).run P w = .ok rv w' ∧ Nx B G φ H w φ' H' w' ∧ Rep (env φ' G H' w') (.own i 0 len len k) rv := by
  obtain ⟨ti,v,hi,hiz,hc⟩ := zero_rep (E := env φ G H w) hz
  have e1 := hc.1
  have hzr : CRep (env φ G H w) (zeros z len) ((Array.range (len * k)).map (v.cells[· % v.cells.size]!)) := by
    have := zeros_rep hc len
    rw [show len * k = len * v.cells.size by rw [e1,hzk]]; exact this
  have hlen0 : (zeros z len).length = len * k := by rw [zeros_length,hzk]
  obtain ⟨out,ho,hco⟩ := fill_sound hr hzr (by rw [hlen0]; exact hok)
  have hcs := hco.1
  have hfl := fillA_length ps (zeros z len) (by rw [hlen0]; exact hok)
  refine ⟨.slice (some ⟨w.heap.size,0,none⟩) len len,w.alloc (.cells out e),up φ i (some w.heap.size),?_,nx_row hs hn hB (c := out) (t := e) (by omega) hco.2,?_⟩
  · unfold Instr.buildSlice
    simp only [Sem.run_bind,run_underlying ht,Result.andThen_ok,run_sizeOf' hk,if_neg hsm]
    by_cases h0 : len * k = 0
    · have ho' : Instr.fill (fun i => some (i * k,k)) ((Array.range (len * k)).map ((#[] : Array Value)[· % (#[] : Array Value).size]!)) rs.toList = some out := by
        rw [h0,map_range_zero] at ho ⊢; exact ho
      simp only [if_pos h0,Sem.run_bind,Sem.run_pure,Result.andThen_ok,ho']
      simp [newRow]
    · simp only [if_neg h0,Sem.run_bind,zeroValue,typeInfo,run_program,Result.andThen_ok,hi,hiz,Sem.run_pure,ho]
      simp [newRow]
  · refine .own i 0 len len k w.heap.size len out e (dom_new hn (by simp)) (up_same _ _ _) ?_ (by rw [hcs,hfl,hlen0]; omega) (Nat.le_refl _) (Nat.le_refl _)
    show (w.heap.push _)[w.heap.size]? = _
    simp
theorem mksl_sound (hs : SimH φ G H w) {i k bytes : Nat} {z : List AVal} {l c : Int} {kl kc : IntKind} {H' : AHeap} (hn : NewAt H i (.cells (zeros z c.toNat)) H') (hB : B ≤ i)
    {t e : TypeId} (ht : P.underlying t = some (.slice e)) (hk : tSize P e = some k) (hby : tBytes P e = some bytes) (hz : tZero P e = some z) (hzk : z.length = k) 
    (h0 : 0 ≤ l) (h1 : l ≤ c) (h2 : bytes * c ≤ 2 ^ 48) (h3 : c < 2 ^ 63) :
    ∃ rv w' φ',(Instr.makeSlice t (.int kl l) (.int kc c)).run P w = .ok rv w' ∧ Nx B G φ H w φ' H' w' ∧ Rep (env φ' G H' w') (.own i 0 l.toNat c.toNat k) rv := by
  obtain ⟨ti,v,hi,hiz,hc⟩ := zero_rep (E := env φ G H w) hz
  have e1 := hc.1
  have hzr : CRep (env φ G H w) (zeros z c.toNat) ((Array.range (c.toNat * k)).map (v.cells[· % v.cells.size]!)) := by
    have := zeros_rep hc c.toNat
    rw [show c.toNat * k = c.toNat * v.cells.size by rw [e1,hzk]]; exact this
  have hlen0 : (zeros z c.toNat).length = c.toNat * k := by rw [zeros_length,hzk]
  have hwl : IntKind.i64.wrap l = l := IntWalk.i64_in l (by omega)
  have hwc : IntKind.i64.wrap c = c := IntWalk.i64_in c (by omega)
  have hti : ti.bytes = bytes := by unfold tBytes at hby; simpa [hi] using hby
  refine ⟨.slice (some ⟨w.heap.size,0,none⟩) l.toNat c.toNat,w.alloc (.cells ((Array.range (c.toNat * k)).map (v.cells[· % v.cells.size]!)) e),up φ i (some w.heap.size),?_,nx_row hs hn hB (by have := hzr.1; omega) hzr.2,?_⟩
  · have hb1 : ¬ (bytes : Int) * c > 2 ^ 48 := by omega
    have hc0 : ¬ c < 0 := by omega
    have hl0 : ¬ l < 0 := by omega
    have hlc : ¬ l > c := by omega
    unfold Instr.makeSlice
    simp only [Sem.run_bind,run_underlying ht,Result.andThen_ok,asInt,asIntOf,Sem.run_pure,hwl,hwc,typeInfo,run_program,hi,hti]
    simp only [hb1,hc0,hl0,hlc,decide_false,Bool.or_self,Bool.false_eq_true,if_false,Sem.run_bind,run_askRoom,Result.andThen_ok,run_sizeOf' hk]
    by_cases h0 : c.toNat * k = 0
    · simp only [if_pos h0,Sem.run_bind,Sem.run_pure,Result.andThen_ok]
      rw [h0,map_range_zero,map_range_zero]
      simp [newRow]
    · simp only [if_neg h0,Sem.run_bind,zeroValue,typeInfo,run_program,Result.andThen_ok,hi,hiz,Sem.run_pure]
      simp [newRow]
  · have hsz := hzr.1
    refine .own i 0 l.toNat c.toNat k w.heap.size c.toNat ((Array.range (c.toNat * k)).map (v.cells[· % v.cells.size]!)) e (dom_new hn (by simp)) (up_same _ _ _) ?_ (by rw [hlen0] at hsz; omega) (Nat.le_refl _) (by omega)
    show (w.heap.push _)[w.heap.size]? = _
    simp
/-! ### Writing -/
theorem flat_cells {E : Env} {k off : Nat} {f : Nat → Value} : ∀ (xs : List AVal),szOk k xs → (∀ (i : Nat) (e : AVal),xs[i]? = some e → ∀ (j : Nat) u,e.cells[j]? = some u → Rep E u (f (off + i * k + j))) →
    ∀ (j : Nat) u,(xs.flatMap AVal.cells)[j]? = some u → Rep E u (f (off + j)) := by
  intro xs
  induction xs generalizing off with
  | nil => intro _ _ j u hu; simp at hu
  | cons x r ih =>
    intro hz h j u hu
    have hx : x.cells.length = k := hz x (by simp)
    rw [List.flatMap_cons,List.getElem?_append] at hu
    by_cases hj : j < x.cells.length
    · rw [if_pos hj] at hu
      have := h 0 x rfl j u hu
      simpa using this
    · rw [if_neg hj] at hu
      have := ih (off := off + k) (fun e he => hz e (by simp [he])) (fun i e he j u hu => by
        have := h (i + 1) e (by simpa using he) j u hu
        rw [show off + k + i * k + j = off + (i + 1) * k + j by rw [Nat.add_mul]; omega]; exact this) (j - x.cells.length) u hu
      rw [show off + j = off + k + (j - x.cells.length) by omega]; exact this
theorem flat_length {k : Nat} : ∀ (xs : List AVal),szOk k xs → (xs.flatMap AVal.cells).length = xs.length * k
  | [],_ => by simp
  | x :: r,h => by
    rw [List.flatMap_cons,List.length_append,flat_length r (fun e he => h e (by simp [he])),h x (by simp),List.length_cons,Nat.add_mul]; omega
theorem src_sound (hs : SimH φ G H w) {k : Nat} {x : AVal} {rx : Value} {m : Nat} {xc : List AVal} {p : Prop} (h : srcA k x H = some (m,xc,p)) (hp : p) (hr : Rep (env φ G H w) x rx) :
    (Builtin.lenOf rx).run P w = .ok m w ∧ (∀ u ∈ xc,u.isCell = true) ∧ xc.length = m * k ∧ ∃ vs : Array Value,CRep (env φ G H w) xc vs ∧ ∀ n,n ≤ m → (Builtin.firstCells k n rx).run P w = .ok (vs.extract 0 (n * k)) w := by
  have cellsRun : ∀ {b off : Nat} {len cap : Nat} {xc : List AVal},xc.length = m * k → (∀ (j : Nat) u,xc[j]? = some u → ∃ v,w.cell? ⟨b,off + j,none⟩ = some v ∧ Rep (env φ G H w) u v) → rx = .slice (some ⟨b,off,none⟩) len cap →
      ∃ vs : Array Value,CRep (env φ G H w) xc vs ∧ ∀ n,n ≤ m → (Builtin.firstCells k n rx).run P w = .ok (vs.extract 0 (n * k)) w := by
    intro b off len cap xc hl hc hrx
    subst hrx
    refine ⟨((List.range xc.length).map fun j => (w.cell? ⟨b,off + j,none⟩).getD undef).toArray,.of (by simp) (fun j hj hj' => ?_),fun n hn => ?_⟩
    · obtain ⟨v,hv,hrep⟩ := hc j xc[j] (by simp [hj'])
      simpa [hv] using hrep
    · have hnk : n * k ≤ xc.length := by rw [hl]; exact Nat.mul_le_mul_right k hn
      have := run_loadCells (P := P) (w := w) ⟨b,off,none⟩ (n * k) (fun j => (w.cell? ⟨b,off + j,none⟩).getD undef) (fun j hj => by
        obtain ⟨v,hv,_⟩ := hc j xc[j] (by simp [show j < xc.length by omega])
        rw [addr_add,hv]; rfl)
      simp only [Builtin.firstCells,this]
      congr 1
      apply Array.ext'
      apply List.ext_getElem
      · simp; omega
      · intro i h1 h2; simp
  unfold srcA at h
  split at h
  · rename_i nn t xs
    simp only [Option.some.injEq,Prod.mk.injEq] at h
    obtain ⟨rfl,rfl,rfl⟩ := h
    obtain ⟨hz,hcell⟩ := hp
    have hfl := flat_length xs hz
    rcases hr.inv_sl with ⟨_,rfl,rfl⟩ | ⟨b,off,cap,k',rfl,h0,hb,hle,_,hkk,hc⟩ | ⟨rfl,_,a,rfl⟩
    · refine ⟨rfl,hcell,hfl,#[],⟨rfl,fun j u hu => by simp at hu⟩,fun n hn => ?_⟩
      have : n = 0 := by simpa using hn
      subst this
      simp [Builtin.firstCells]
    rotate_left
    · refine ⟨rfl,hcell,hfl,#[],⟨rfl,fun j u hu => by simp at hu⟩,fun n hn => ?_⟩
      have : n = 0 := by simpa using hn
      subst this
      simp [Builtin.firstCells,loadCells,loadCellsFrom]
    · refine ⟨rfl,hcell,hfl,cellsRun hfl (fun j u hu => ?_) rfl⟩
      have hne : xs ≠ [] := by rintro rfl; simp at hu
      obtain rfl := sl_size hne hz hkk
      have := flat_cells (E := env φ G H w) (k := k') (off := 0) (f := fun j => (w.cell? ⟨b,off + j,none⟩).getD undef) xs hz (fun i e he j u hu => by
        obtain ⟨v,hv,hrep⟩ := hc i e he j u hu
        have hv' : w.cell? ⟨b,off + (0 + i * k' + j),none⟩ = some v := by
          rw [show off + (0 + i * k' + j) = off + i * k' + j by omega]; exact hv
        rw [hv']; exact hrep) j u hu
      have hex : ∃ v,w.cell? ⟨b,off + j,none⟩ = some v := by
        have hjl : j < xs.length * k' := by rw [← hfl]; exact (List.getElem?_eq_some_iff.1 hu).1
        have hq : j / k' < xs.length := Nat.div_lt_of_lt_mul (by rw [Nat.mul_comm]; exact hjl)
        have hmod : j % k' < k' := Nat.mod_lt _ h0
        have hcl := hkk (j / k') xs[j / k'] (by simp [hq])
        obtain ⟨v,hv,_⟩ := hc (j / k') xs[j / k'] (by simp [hq]) (j % k') (xs[j / k'].cells[j % k']'(by omega)) (by simp)
        refine ⟨v,?_⟩
        have := Nat.div_add_mod j k'
        rw [Nat.mul_comm] at this
        rw [show off + j = off + j / k' * k' + j % k' by omega]; exact hv
      obtain ⟨v,hv⟩ := hex
      refine ⟨v,hv,?_⟩
      simpa [hv] using this
  · rename_i i off len lb k'
    split at h
    case isFalse => cases h
    rename_i hkk
    subst hkk
    split at h
    case h_2 => cases h
    rename_i cs hi
    simp only [Option.some.injEq,Prod.mk.injEq] at h
    obtain ⟨rfl,rfl,rfl⟩ := h
    obtain ⟨hfit,hcell⟩ := hp
    have hfl : ((cs.drop off).take (len * k)).length = len * k := by simp; omega
    obtain ⟨hN,⟨hφ,rfl,rfl,rfl,a,rfl⟩ | ⟨r,cap,c,ee,hφ,rfl,hc,hsz,hlb,hle⟩⟩ := hr.inv_own
    · refine ⟨rfl,hcell,hfl,#[],⟨by simp,fun j u hu => by simp at hu⟩,fun n hn => ?_⟩
      have : n = 0 := by omega
      subst this
      cases a with
      | none => simp [Builtin.firstCells]
      | some a => simp [Builtin.firstCells,loadCells,loadCellsFrom]
    · refine ⟨rfl,hcell,hfl,cellsRun hfl (fun j u hu => ?_) rfl⟩
      have hb := hs.blk i _ hi
      have hφ' : φ i = some r := hφ
      simp only [BlkRep,hφ'] at hb
      obtain ⟨c2,e2,hc2,hl2,hr2⟩ := hb
      have hc2' : w.heap[r]? = some (.cells c2 e2 (0,0)) := hc2
      rw [List.getElem?_take] at hu
      split at hu
      case isFalse => cases hu
      rw [List.getElem?_drop] at hu
      have hlt : off + j < cs.length := (List.getElem?_eq_some_iff.1 hu).1
      have hlt' : off + j < c2.size := by omega
      have := hr2 _ u hu
      rw [Array.getD_eq_getD_getElem?,Array.getElem?_eq_getElem hlt'] at this
      exact ⟨c2[off + j],by simp [World.cell?,hc2',hlt'],this⟩
  · simp only [Option.some.injEq,Prod.mk.injEq] at h
    obtain ⟨rfl,rfl,rfl⟩ := h
    cases hr.inv_val
    refine ⟨rfl,fun u hu => by simp at hu,by simp,#[],⟨rfl,fun j u hu => by simp at hu⟩,fun n hn => ?_⟩
    have : n = 0 := by omega
    subst this
    simp [Builtin.firstCells]
  · cases h
theorem splice2 {E : Env} {cs xs : List AVal} {c ys : Array Value} (h : ∀ (j : Nat) u,cs[j]? = some u → Rep E u (c.getD j undef)) (hl : cs.length ≤ c.size) (hx : CRep E xs ys) {off : Nat} (ho : off ≤ cs.length) (hf : off + xs.length ≤ c.size) :
    (cs.take off ++ xs ++ cs.drop (off + xs.length)).length ≤ (c.toList.take off ++ ys.toList ++ c.toList.drop (off + ys.size)).toArray.size ∧ (c.toList.take off ++ ys.toList ++ c.toList.drop (off + ys.size)).toArray.size = c.size ∧
    ∀ (j : Nat) u,(cs.take off ++ xs ++ cs.drop (off + xs.length))[j]? = some u → Rep E u ((c.toList.take off ++ ys.toList ++ c.toList.drop (off + ys.size)).toArray.getD j undef) := by
  have e := hx.1
  refine ⟨by simp; omega,by simp; omega,fun j u hu => ?_⟩
  have hg : (c.toList.take off ++ ys.toList ++ c.toList.drop (off + ys.size)).toArray.getD j undef = ((c.toList.take off ++ ys.toList ++ c.toList.drop (off + ys.size))[j]?).getD undef := by
    rw [Array.getD_eq_getD_getElem?]; simp
  rw [hg]
  rw [List.append_assoc,List.getElem?_append] at hu ⊢
  have e1 : (cs.take off).length = off := by simp; omega
  have e2 : (c.toList.take off).length = off := by simp; omega
  rw [e1] at hu; rw [e2]
  by_cases h1 : j < off
  · rw [if_pos h1] at hu ⊢
    rw [List.getElem?_take,if_pos h1] at hu ⊢
    have := h j u hu
    rw [Array.getD_eq_getD_getElem?] at this
    simpa using this
  · rw [if_neg h1] at hu ⊢
    rw [List.getElem?_append] at hu ⊢
    rw [show ys.toList.length = xs.length by simp [e]]
    by_cases h2 : j - off < xs.length
    · rw [if_pos h2] at hu ⊢
      have := hx.2 _ u hu
      rw [Array.getD_eq_getD_getElem?] at this
      simpa using this
    · rw [if_neg h2] at hu ⊢
      rw [List.getElem?_drop] at hu ⊢
      have := h _ u hu
      rw [Array.getD_eq_getD_getElem?] at this
      simpa [e] using this
theorem store_cells (hs : SimH φ G H w) {i r : Nat} {cs xs : List AVal} {c ys : Array Value} {e : TypeId} (hi : H[i]? = some (.cells cs)) (hφ : φ i = some r) (hc : w.heap[r]? = some (.cells c e (0,0)))
    (hx : CRep (env φ G H w) xs ys) (hcell : ∀ u ∈ xs,u.isCell = true) {off : Nat} (ho : off ≤ cs.length) (hf : off + xs.length ≤ c.size) :
    ∃ w',(storeCells ⟨r,off,none⟩ ys.toList).run P w = .ok () w' ∧ Nx B G φ H w φ (H.set i (.cells (cs.take off ++ xs ++ cs.drop (off + xs.length)))) w' := by
  have hb := hs.blk i _ hi
  simp only [BlkRep,hφ] at hb
  obtain ⟨c2,e2,hc2,hl2,hr2⟩ := hb
  have hc2' : w.heap[r]? = some (.cells c2 e2 (0,0)) := hc2
  rw [hc] at hc2'
  cases hc2'
  have e1 := hx.1
  have hst := run_storeCells_at P r off e ys.toList 0 c w hc (by simp; omega) (hx.oneCells hcell)
  obtain ⟨h1,h2,h3⟩ := splice2 hr2 hl2 hx ho hf
  refine ⟨_,hst,?_⟩
  have := nx_set (B := B) hs hi hφ hc h2 h1 h3
  simpa using this
theorem sto_sound (hs : SimH φ G H w) {t : TypeId} {k : Nat} (hk : tSize P t = some k) {a v : AVal} {ra rv : Value} {p : Prop} {u : AVal} {H' : AHeap} (h : stoA k a v H = some (p,u,H')) (hp : p)
    (h1 : Rep (env φ G H w) a ra) (h2 : Rep (env φ G H w) v rv) : u = .any ∧ ∃ w',(Instr.storeAt t ra rv).run P w = .ok () w' ∧ Nx B G φ H w φ H' w' := by
  unfold stoA at h
  split at h
  case h_2 => cases h
  rename_i i off
  split at h
  case h_2 => cases h
  rename_i cs hi
  simp only [Option.some.injEq,Prod.mk.injEq] at h
  obtain ⟨rfl,rfl,rfl⟩ := h
  obtain ⟨hok,hlen,hfit⟩ := hp
  obtain ⟨r,rfl,hN,hφ⟩ := h1.inv_ptr
  have hφ' : φ i = some r := hφ
  have hb := hs.blk i _ hi
  simp only [BlkRep,hφ'] at hb
  obtain ⟨c,e,hc,hl,hr⟩ := hb
  have hcr := h2.cellsRep (cellsOk_or hok)
  obtain ⟨w',hw,hn⟩ := store_cells (P := P) (B := B) hs hi hφ' hc hcr (cellsOk_all hok) (off := off) (by omega) (by omega)
  refine ⟨rfl,w',?_,by rw [hlen] at hn; exact hn⟩
  have hz : rv.cells.size = k := by rw [hcr.1,hlen]
  simp [Instr.storeAt,Instr.sureAddr,storeVar,run_sizeOf' hk,hz]
  exact hw
theorem cop_sound (hs : SimH φ G H w) {t e : TypeId} (ht : P.underlying t = some (.slice e)) {k : Nat} (hk : tSize P e = some k) {d s : AVal} {rd rs : Value} {ts : Array TypeId} (hts : ts[0]? = some t) {ty : TypeId} {p : Prop} {u : AVal} {H' : AHeap}
    (h : copA k d s H = some (p,u,H')) (hp : p) (h1 : Rep (env φ G H w) d rd) (h2 : Rep (env φ G H w) s rs) :
    ∃ rv w',(Builtin.copy_ ts ty #[rd,rs]).run P w = .ok rv w' ∧ Nx B G φ H w φ H' w' ∧ Rep (env φ G H' w') u rv := by
  unfold copA at h
  split at h
  case h_3 => cases h
  case h_2 =>
    rename_i m xc q nn tt hsrc
    simp only [Option.some.injEq,Prod.mk.injEq] at h
    obtain ⟨rfl,rfl,rfl⟩ := h
    obtain ⟨hlen,hcell,hxl,vs,hcr,hrun⟩ := src_sound (P := P) hs hsrc hp h2
    have h0 := hrun 0 (by omega)
    have fin : ∀ (a : Option Addr) (cap : Nat),∃ rv w',(Builtin.copy_ ts ty #[.slice a 0 cap,rs]).run P w = .ok rv w' ∧ Nx B G φ H w φ H w' ∧ Rep (env φ G H w') (I 0) rv := fun a cap => by
      refine ⟨.int .i64 0,w,?_,.refl hs,.val _⟩
      unfold Builtin.copy_
      cases a with
      | none => simp [hts,run_underlying ht,hlen,run_sizeOf' hk,h0,goInt]
      | some a =>
        have hst : (storeCells a []).run P w = .ok () w := rfl
        simp [hts,run_underlying ht,hlen,run_sizeOf' hk,h0,goInt,hst]
    rcases h1.inv_sl with ⟨-,-,rfl⟩ | ⟨b,off,cap,k',rfl,-⟩ | ⟨-,-,a,rfl⟩
    · exact fin none 0
    · exact fin _ cap
    · exact fin _ 0
  rename_i m xc q i off len lb k' hsrc
  split at h
  case isFalse => cases h
  rename_i hkk
  subst hkk
  split at h
  case h_2 => cases h
  rename_i cs hi
  simp only [Option.some.injEq,Prod.mk.injEq] at h
  obtain ⟨rfl,rfl,rfl⟩ := h
  obtain ⟨hq,hfit⟩ := hp
  obtain ⟨hlen,hcell,hxl,vs,hcr,hrun⟩ := src_sound (P := P) hs hsrc hq h2
  have hmin : min m len ≤ m := Nat.min_le_left _ _
  have hmk : min m len * k ≤ m * k := Nat.mul_le_mul_right k hmin
  have hlk : min m len * k ≤ len * k := Nat.mul_le_mul_right k (Nat.min_le_right _ _)
  have hcut : CRep (env φ G H w) (xc.take (min m len * k)) (vs.extract 0 (min m len * k)) := by
    have := CRep.cutOut (E := env φ G H w) hcr.2 (o := 0) (n := min m len * k) (by omega) (by have := hcr.1; omega)
    simpa using this
  have htl : (xc.take (min m len * k)).length = min m len * k := by simp; omega
  obtain ⟨hN,⟨hφ,rfl,rfl,rfl,a,rfl⟩ | ⟨r,cap,c,ee,hφ,rfl,hc,hsz,hlb,hle⟩⟩ := h1.inv_own
  · simp only [Nat.min_zero,Nat.zero_mul] at *
    have hsame : H.set i (.cells (cs.take 0 ++ xc.take 0 ++ cs.drop (0 + 0))) = H := by
      apply List.ext_getElem?
      intro j
      rw [List.getElem?_set]
      by_cases h : i = j
      · subst h; obtain ⟨h1,h2⟩ := List.getElem?_eq_some_iff.1 hi; simp [h1,h2]
      · simp [h]
    rw [hsame]
    have h0 := hrun 0 (by omega)
    refine ⟨.int .i64 0,w,?_,.refl hs,.val _⟩
    unfold Builtin.copy_
    cases a with
    | none => simp [hts,run_underlying ht,hlen,run_sizeOf' hk,h0,goInt]
    | some a =>
      have hst : (storeCells ⟨a.1,a.2,none⟩ []).run P w = .ok () w := rfl
      simp [hts,run_underlying ht,hlen,run_sizeOf' hk,h0,goInt,hst]
  · have hφ' : φ i = some r := hφ
    have hc' : w.heap[r]? = some (.cells c ee (0,0)) := hc
    have hlc : off + len * k ≤ c.size := Nat.le_trans (Nat.add_le_add_left (Nat.mul_le_mul_right k hle) off) hsz
    obtain ⟨w',hw,hn⟩ := store_cells (P := P) (B := B) hs hi hφ' hc' hcut (fun u hu => hcell u (List.mem_of_mem_take hu)) (off := off) (by omega) (by omega)
    rw [htl] at hn
    refine ⟨.int .i64 (min m len : Nat),w',?_,hn,.val _⟩
    have h0 := hrun (min m len) hmin
    have h0' : (Builtin.firstCells k (Nat.min m len) rs).run P w = .ok (vs.extract 0 (min m len * k)) w := h0
    unfold Builtin.copy_
    simp only [hts,List.getElem?_toArray,List.getElem?_cons_zero,List.getElem?_cons_succ,Sem.run_bind,run_underlying ht,Result.andThen_ok,hlen,run_sizeOf' hk,h0',hw,Sem.run_pure,goInt]
theorem clr_sound (hs : SimH φ G H w) {t e : TypeId} (ht : P.underlying t = some (.slice e)) {k : Nat} (hk : tSize P e = some k) {z : List AVal} (hz : tZero P e = some z) (hzk : z.length = k) (hzc : z.all AVal.isCell = true) {d : AVal} {rd : Value} {ty : TypeId} {p : Prop} {u : AVal} {H' : AHeap}
    (h : clrA k z d H = some (p,u,H')) (hp : p) (h1 : Rep (env φ G H w) d rd) :
    ∃ rv w',(Builtin.clear_ #[t] ty #[rd]).run P w = .ok rv w' ∧ Nx B G φ H w φ H' w' ∧ Rep (env φ G H' w') u rv := by
  unfold clrA at h
  split at h
  case h_2 => cases h
  rename_i i off len lb k'
  split at h
  case isFalse => cases h
  rename_i hkk
  subst hkk
  split at h
  case h_2 => cases h
  rename_i cs hi
  simp only [Option.some.injEq,Prod.mk.injEq] at h
  obtain ⟨rfl,rfl,rfl⟩ := h
  obtain ⟨ti,v,hin,hiz,hc⟩ := zero_rep (E := env φ G H w) hz
  have e1 := hc.1
  have hzl : (zeros z len).length = len * k := by rw [zeros_length,hzk]
  have hzr : CRep (env φ G H w) (zeros z len) (Builtin.zeroCells v.cells len) := zeros_rep hc len
  have hsame : len = 0 → H.set i (.cells (cs.take off ++ zeros z len ++ cs.drop (off + len * k))) = H := by
    intro h0
    have hn : zeros z len = [] := List.length_eq_zero_iff.1 (by rw [hzl,h0,Nat.zero_mul])
    rw [hn,h0]
    simp only [Nat.zero_mul,Nat.add_zero,List.append_nil,List.take_append_drop]
    apply List.ext_getElem?
    intro j
    rw [List.getElem?_set]
    by_cases h : i = j
    · subst h; obtain ⟨h1,h2⟩ := List.getElem?_eq_some_iff.1 hi; simp [h1,h2]
    · simp [h]
  obtain ⟨hN,⟨hφ,rfl,rfl,rfl,a,rfl⟩ | ⟨r,cap,c,ee,hφ,rfl,hc2,hsz,hlb,hle⟩⟩ := h1.inv_own
  · rw [hsame rfl]
    refine ⟨.tuple #[],w,?_,.refl hs,.any _⟩
    unfold Builtin.clear_
    cases a with
    | none => simp [run_underlying ht]
    | some a => simp [run_underlying ht]
  · by_cases h0 : len = 0
    · rw [hsame h0]
      subst h0
      refine ⟨.tuple #[],w,?_,.refl hs,.any _⟩
      unfold Builtin.clear_
      simp [run_underlying ht]
    · have hφ' : φ i = some r := hφ
      have hc' : w.heap[r]? = some (.cells c ee (0,0)) := hc2
      have hlc : off + len * k ≤ c.size := Nat.le_trans (Nat.add_le_add_left (Nat.mul_le_mul_right k hle) off) hsz
      have hcell : ∀ u ∈ zeros z len,u.isCell = true := by
        intro u hu
        have hza := List.all_eq_true.1 hzc
        unfold zeros at hu
        split at hu
        · exact hza u (by simp [(List.mem_replicate.1 hu).2])
        · obtain ⟨l,hl,hul⟩ := List.mem_flatten.1 hu
          rw [(List.mem_replicate.1 hl).2] at hul
          exact hza u hul
      obtain ⟨w',hw,hn⟩ := store_cells (P := P) (B := B) hs hi hφ' hc' hzr hcell (off := off) (by omega) (by omega)
      rw [hzl] at hn
      refine ⟨.tuple #[],w',?_,hn,.any _⟩
      unfold Builtin.clear_
      cases len with
      | zero => exact absurd rfl h0
      | succ n => simp [run_underlying ht,zeroValue,typeInfo,hin,hiz,hw]
/-! ### append -/
theorem nx_drew (hs : SimH φ G H w) : Nx B G φ H w φ H w.drew := by
  have hle : (env φ G H w).Le (env φ G H w.drew) := ⟨fun _ _ => rfl,fun _ h => h,fun _ h => .inl h,fun _ _ _ => rfl,fun _ c _ _ h => ⟨c,h,rfl⟩⟩
  exact ⟨⟨hs.glt,hs.inj,hs.dis,fun i b hb => (hs.blk i b hb).mono hle (fun _ _ => rfl)⟩,hle,⟨fun _ _ => rfl,fun _ _ h => h,fun h => h,fun _ h => .inl h,fun _ _ _ => rfl,fun _ c _ _ h => ⟨c,h,rfl⟩,Nat.le_refl _,rfl,rfl,rfl,Nat.le_succ _⟩⟩
theorem run_append_new {t e : TypeId} {k bytes : Nat} (ht : P.underlying t = some (.slice e)) (hk : tSize P e = some k) (hby : tBytes P e = some bytes) {z : List AVal} (hz : tZero P e = some z) (hzk : z.length = k) (hb0 : bytes ≠ 0)
    {t2 : TypeId} (ht2 : ∃ e2,P.underlying t2 = some (.slice e2)) {ty : TypeId} {base : Option Addr} {len cap m : Nat} {rx : Value} {old new : Array Value}
    (hlen : (Builtin.lenOf rx).run P w = .ok m w) (hnew : (Builtin.firstCells k m rx).run P w.drew = .ok new w.drew) (hold : (Builtin.firstCells k len (.slice base len cap)).run P w.drew = .ok old w.drew) (hos : old.size = len * k) (hns : new.size = m * k)
    (hgrow : cap < len + m) (hfit : (len + m) * bytes ≤ 2 ^ 40) :
    ∃ newCap rest,len + m ≤ newCap ∧ (old ++ new ++ rest).size = newCap * k ∧
      (Builtin.append_ #[t,t2] ty #[.slice base len cap,rx]).run P w = .ok (.slice (some ⟨w.heap.size,0,none⟩) (len + m) newCap) (w.drew.alloc (.cells (old ++ new ++ rest) e)) := by
  obtain ⟨ti,v,hi,hiz,hc⟩ := zero_rep (E := env (fun _ => none) (fun _ => False) [] w) hz
  obtain ⟨e2,ht2⟩ := ht2
  have hti : ti.bytes = bytes := by unfold tBytes at hby; simpa [hi] using hby
  have htk : ti.size = k := by unfold tSize at hk; simpa [hi] using hk
  have hnc := growslice_fits (need := len + m) (old := cap) (bytes := bytes) hgrow (by omega)
  have hlb : len + m ≤ 2 ^ 40 := Nat.le_trans (Nat.le_mul_of_pos_right _ (by omega)) hfit
  refine ⟨grownCap w (len + m) cap e,Builtin.zeroCells v.cells (grownCap w (len + m) cap e - (len + m)),?_,?_,?_⟩
  · simp [grownCap,Question.cut]
  · have hzs : v.cells.size = k := by rw [hc.1,hzk]
    have hge : len + m ≤ grownCap w (len + m) cap e := by simp [grownCap,Question.cut]
    simp only [Array.size_append,hos,hns,Builtin.zeroCells,Array.size_map,Array.size_range,hzs]
    rw [← Nat.add_mul,← Nat.add_mul]
    congr 1; omega
  · have hn : ¬ (len + m ≤ cap) := by omega
    have h48' : ¬ (281474976710656 < Builtin.nextslicecap (len + m) cap * bytes) := by omega
    simp [Builtin.append_,run_underlying ht,run_underlying ht2,sizeOf,typeInfo,zeroValue,hi,hiz,hlen,hn,h48',hti,htk,hb0,Question.forced,hnew,hold,newRow,grownCap]
theorem run_append_room' {t e : TypeId} {k : Nat} (ht : P.underlying t = some (.slice e)) (hk : tSize P e = some k) {t2 : TypeId} (ht2 : ∃ e2,P.underlying t2 = some (.slice e2)) {ty : TypeId} {r off len cap m : Nat} {rx : Value} {new : Array Value} {w' : World}
    (hlen : (Builtin.lenOf rx).run P w = .ok m w) (hnew : (Builtin.firstCells k m rx).run P w = .ok new w) (hroom : len + m ≤ cap) (hst : (storeCells ⟨r,off + len * k,none⟩ new.toList).run P w = .ok () w') :
    (Builtin.append_ #[t,t2] ty #[.slice (some ⟨r,off,none⟩) len cap,rx]).run P w = .ok (.slice (some ⟨r,off,none⟩) (len + m) cap) w' := by
  obtain ⟨e2,ht2⟩ := ht2
  have hst' : (storeCells ((⟨r,off,none⟩ : Addr).add (len * k)) new.toList).run P w = .ok () w' := by rw [addr_add]; exact hst
  simp [Builtin.append_,run_underlying ht,run_underlying ht2,run_sizeOf' hk,hlen,hroom,hnew,hst']
theorem run_append_none {t e : TypeId} {k : Nat} (ht : P.underlying t = some (.slice e)) (hk : tSize P e = some k) {t2 : TypeId} (ht2 : ∃ e2,P.underlying t2 = some (.slice e2)) {ty : TypeId} {base : Option Addr} {rx : Value}
    (hlen : (Builtin.lenOf rx).run P w = .ok 0 w) (hnew : (Builtin.firstCells k 0 rx).run P w = .ok #[] w) :
    (Builtin.append_ #[t,t2] ty #[.slice base 0 0,rx]).run P w = .ok (.slice base 0 0) w := by
  obtain ⟨e2,ht2⟩ := ht2
  cases base with
  | none => simp [Builtin.append_,run_underlying ht,run_underlying ht2,run_sizeOf' hk,hlen,hnew]
  | some a =>
    have hst : (storeCells (a.add (0 * k)) []).run P w = .ok () w := rfl
    simp [Builtin.append_,run_underlying ht,run_underlying ht2,run_sizeOf' hk,hlen,hnew]
    simp at hst
    simp [hst]
theorem nx_shrink (hs : SimH φ G H w) {i : Nat} {cs : List AVal} (hi : H[i]? = some (.cells cs)) (q : Nat) : Nx B G φ H w φ (H.set i (.cells (cs.take q))) w := by
  have hb := hs.blk i _ hi
  cases hφ : φ i with
  | none =>
    rw [hφ] at hb
    have hnil : cs = [] := hb
    subst hnil
    have hsame : H.set i (.cells (([] : List AVal).take q)) = H := by
      apply List.ext_getElem?
      intro j
      rw [List.getElem?_set]
      by_cases h : i = j
      · subst h; obtain ⟨h1,h2⟩ := List.getElem?_eq_some_iff.1 hi; simp [h1,h2]
      · simp [h]
    rw [hsame]; exact .refl hs
  | some r =>
    simp only [BlkRep,hφ] at hb
    obtain ⟨c,e,hc,hl,hr⟩ := hb
    have hc' : w.heap[r]? = some (.cells c e (0,0)) := hc
    have := nx_set (B := B) hs hi hφ hc' (c' := c) (cs' := cs.take q) rfl (by simp; omega) (fun j u hu => by
      rw [List.getElem?_take] at hu
      split at hu
      · exact hr j u hu
      · cases hu)
    rwa [setRow_self w r c e (0,0) hc'] at this
theorem app_sound (hs : SimH φ G H w) {t e : TypeId} {k bytes : Nat} (ht : P.underlying t = some (.slice e)) (hk : tSize P e = some k) (hby : tBytes P e = some bytes) {z : List AVal} (hz : tZero P e = some z) (hzk : z.length = k) (hb0 : bytes ≠ 0)
    {t2 : TypeId} (ht2 : ∃ e2,P.underlying t2 = some (.slice e2)) {ty : TypeId} {n : Nat} {pl : AHeap → Blk → AHeap} (hpl : ∀ b,NewAt H n b (pl H b)) (hpl2 : ∀ i b c,H[i]? = some b → b ≠ .hole → NewAt (H.set i .dead) n c (pl (H.set i .dead) c)) (hB : B ≤ n)
    {s x : AVal} {rs rx : Value} {p : Prop} {u : AVal} {H' : AHeap} (h : appA k bytes s x H n pl = some (p,u,H')) (hp : p) (h1 : Rep (env φ G H w) s rs) (h2 : Rep (env φ G H w) x rx) :
    ∃ rv w' φ',(Builtin.append_ #[t,t2] ty #[rs,rx]).run P w = .ok rv w' ∧ Nx B G φ H w φ' H' w' ∧ Rep (env φ' G H' w') u rv := by
  have hd := nx_drew (B := B) hs
  -- a row made anew,whatever s was
  have anew : ∀ {base : Option Addr} {len cap m : Nat} {oc xc : List AVal} {po px : Prop},srcA k s H = some (len,oc,po) → po → srcA k x H = some (m,xc,px) → px → rs = .slice base len cap → cap < len + m → (len + m) * bytes ≤ 2 ^ 40 →
      ∃ rv w' φ',(Builtin.append_ #[t,t2] ty #[rs,rx]).run P w = .ok rv w' ∧ Nx B G φ H w φ' (pl H (.cells (oc ++ xc))) w' ∧ Rep (env φ' G (pl H (.cells (oc ++ xc))) w') (.own n 0 (len + m) (len + m) k) rv ∧ φ' = up φ n (some w.heap.size) := by
    intro base len cap m oc xc po px hso hpo hsx hpx hrs hg hf
    subst hrs
    obtain ⟨_,_,hol,vo,hvo,hro⟩ := src_sound (P := P) hd.sim hso hpo (h1.mono hd.le)
    obtain ⟨hlen,_,hxl,vx,hvx,hrx⟩ := src_sound (P := P) hd.sim hsx hpx (h2.mono hd.le)
    obtain ⟨hlen0,_⟩ := src_sound (P := P) hs hsx hpx h2
    have eo : vo.extract 0 (len * k) = vo := by rw [← hol,← hvo.1,Array.extract_size]
    have ex : vx.extract 0 (m * k) = vx := by rw [← hxl,← hvx.1,Array.extract_size]
    have ho := hro len (Nat.le_refl _)
    have hx := hrx m (Nat.le_refl _)
    rw [eo] at ho; rw [ex] at hx
    obtain ⟨newCap,rest,hle,hsz,hrun⟩ := run_append_new (P := P) (w := w) ht hk hby hz hzk hb0 ht2 (ty := ty) hlen0 hx ho (by rw [hvo.1,hol]) (by rw [hvx.1,hxl]) hg hf
    have hcr := hvo.append hvx
    have hnr := nx_row (B := B) hd.sim (hpl (.cells (oc ++ xc))) hB (c := vo ++ vx ++ rest) (t := e) (by have := hcr.1; simp at this ⊢; omega) (fun j q hq => by
      have hlt : j < (oc ++ xc).length := (List.getElem?_eq_some_iff.1 hq).1
      have := hcr.2 j q hq
      have h3 : j < (vo ++ vx).size := by rw [hcr.1]; exact hlt
      rw [Array.getD_eq_getD_getElem?,Array.getElem?_eq_getElem h3] at this
      rw [Array.getD_eq_getD_getElem?,Array.getElem?_append_left h3,Array.getElem?_eq_getElem h3]
      exact this)
    refine ⟨_,_,_,hrun,hd.trans hnr,?_,rfl⟩
    refine .own n 0 (len + m) (len + m) k w.heap.size newCap (vo ++ vx ++ rest) e (dom_new (hpl _) (by simp)) (up_same _ _ _) ?_ (by omega) hle hle
    show (w.drew.heap.push (.cells (vo ++ vx ++ rest) e))[w.drew.heap.size]? = _
    rw [Array.getElem?_push,if_pos rfl]
  -- nothing onto a slice without room
  have none' : ∀ {base : Option (Nat × Nat)} {xc : List AVal} {px : Prop},srcA k x H = some (0,xc,px) → px → rs = .slice (base.map fun p => ⟨p.1,p.2,none⟩) 0 0 →
      ∃ rv w' φ',(Builtin.append_ #[t,t2] ty #[rs,rx]).run P w = .ok rv w' ∧ Nx B G φ H w φ' (pl H (.cells xc)) w' ∧ Rep (env φ' G (pl H (.cells xc)) w') (.own n 0 0 0 k) rv := by
    intro base xc px hsx hpx hrs
    subst hrs
    obtain ⟨hlen,_,hxl,vx,hvx,hrx⟩ := src_sound (P := P) hs hsx hpx h2
    have hx := hrx 0 (Nat.le_refl _)
    have hnil : xc = [] := by apply List.eq_nil_of_length_eq_zero; simpa using hxl
    subst hnil
    have : vx.extract 0 (0 * k) = #[] := by simp
    rw [this] at hx
    exact ⟨_,_,_,run_append_none ht hk ht2 hlen hx,nx_virt hs (hpl _) hB,.ownnil n k base (dom_new (hpl _) (by simp)) (up_same _ _ _)⟩
  unfold appA at h
  split at h
  case h_1 => cases h
  rename_i m xc px hsx
  split at h
  · simp only [Option.some.injEq,Prod.mk.injEq] at h
    obtain ⟨rfl,rfl,rfl⟩ := h
    obtain ⟨hpx,hf⟩ := hp
    have hrs := h1.inv_val
    rcases Nat.eq_zero_or_pos m with rfl | hm
    · exact none' (base := none) hsx hpx hrs
    · obtain ⟨rv,w',φ',hrun,hn,hr,_⟩ := anew (len := 0) (oc := []) (po := True) (by simp [srcA]) trivial hsx hpx hrs (by omega) (by simpa using hf)
      exact ⟨rv,w',φ',hrun,by simpa using hn,by simpa using hr⟩
  · rename_i nn xs
    simp only [Option.some.injEq,Prod.mk.injEq] at h
    obtain ⟨rfl,rfl,rfl⟩ := h
    obtain ⟨hpx,hsz,hcell,hm,hf⟩ := hp
    have hrs : ∃ base : Option (Nat × Nat),rs = .slice (base.map fun p => ⟨p.1,p.2,none⟩) xs.length xs.length := by
      rcases h1.inv_sl with ⟨_,rfl,rfl⟩ | ⟨b,off,cap,k',rfl,_,_,_,htt,_⟩ | ⟨_,h,_⟩
      · exact ⟨none,rfl⟩
      · exact ⟨some (b,off),by rw [htt rfl]; rfl⟩
      · cases h
    obtain ⟨base,hrs⟩ := hrs
    rcases Nat.eq_zero_or_pos m with rfl | hm'
    · obtain rfl : xs = [] := by rcases hm with h | h; · omega
                                 · exact h
      have := none' hsx hpx hrs
      simpa using this
    · obtain ⟨rv,w',φ',hrun,hn,hr,_⟩ := anew (len := xs.length) (oc := xs.flatMap AVal.cells) (po := szOk k xs ∧ ∀ u ∈ xs.flatMap AVal.cells,u.isCell = true) rfl ⟨hsz,hcell⟩ hsx hpx hrs (by omega) hf
      exact ⟨rv,w',φ',hrun,hn,hr⟩
  · rename_i i off len lb k'
    split at h
    case isFalse => cases h
    rename_i hkk
    subst hkk
    split at h
    case h_2 => cases h
    rename_i cs hi
    obtain ⟨hlen,hcx,hxl,vx,hvx,hrx⟩ := src_sound (P := P) hs hsx (by
      split at h
      · simp only [Option.some.injEq,Prod.mk.injEq] at h; obtain ⟨rfl,_,_⟩ := h; exact hp.1
      · split at h
        · simp only [Option.some.injEq,Prod.mk.injEq] at h; obtain ⟨rfl,_,_⟩ := h; exact hp.1
        · cases h) h2
    have hx := hrx m (Nat.le_refl _)
    have ex : vx.extract 0 (m * k) = vx := by rw [← hxl,← hvx.1,Array.extract_size]
    rw [ex] at hx
    -- in place
    have inplace : ∀ {r cap : Nat} {c : Array Value} {ee : TypeId},φ i = some r → rs = .slice (some ⟨r,off,none⟩) len cap → w.heap[r]? = some (.cells c ee (0,0)) → off + cap * k ≤ c.size → len + m ≤ cap → off + len * k ≤ cs.length →
        ∃ w',(Builtin.append_ #[t,t2] ty #[rs,rx]).run P w = .ok (.slice (some ⟨r,off,none⟩) (len + m) cap) w' ∧ Nx B G φ H w φ (H.set i (.cells (cs.take (off + len * k) ++ xc ++ cs.drop (off + len * k + m * k)))) w' := by
      intro r cap c ee hφ hrs hc hsz hroom hfit
      have hmul : off + len * k + m * k ≤ c.size := by
        have : (len + m) * k ≤ cap * k := Nat.mul_le_mul_right k hroom
        rw [Nat.add_mul] at this; omega
      obtain ⟨w',hw,hn⟩ := store_cells (P := P) (B := B) hs hi hφ hc hvx hcx (off := off + len * k) hfit (by omega)
      rw [hxl] at hn
      exact ⟨w',by rw [hrs]; exact run_append_room' ht hk ht2 hlen hx hroom hw,hn⟩
    split at h
    · rename_i hroom
      simp only [Option.some.injEq,Prod.mk.injEq] at h
      obtain ⟨rfl,rfl,rfl⟩ := h
      obtain ⟨hpx,hfit⟩ := hp
      obtain ⟨hN,⟨hφ,rfl,rfl,rfl,a,hrs⟩ | ⟨r,cap,c,ee,hφ,hrs,hc,hsz,hlb,hle⟩⟩ := h1.inv_own
      · have hm0 : m = 0 := by omega
        subst hm0
        have hnil : xc = [] := by apply List.eq_nil_of_length_eq_zero; simpa using hxl
        subst hnil
        have hsame : H.set i (.cells (cs.take (0 + 0 * k) ++ [] ++ cs.drop (0 + 0 * k + 0 * k))) = H := by
          apply List.ext_getElem?
          intro j
          rw [List.getElem?_set]
          by_cases h : i = j
          · subst h; obtain ⟨h1,h2⟩ := List.getElem?_eq_some_iff.1 hi; simp [h1,h2]
          · simp [h]
        rw [hsame]
        have hx0 : vx = #[] := by apply Array.eq_empty_of_size_eq_zero; rw [hvx.1]; rfl
        rw [hx0] at hx
        exact ⟨_,w,φ,by rw [hrs]; exact run_append_none ht hk ht2 hlen hx,.refl hs,by rw [← hrs]; exact h1⟩
      · obtain ⟨w',hrun,hn⟩ := inplace hφ hrs hc hsz (by omega) hfit
        refine ⟨_,w',φ,hrun,hn,?_⟩
        have hk' := h1.mono hn.le
        rw [hrs] at hk'
        obtain ⟨hN',⟨hφ',_⟩ | ⟨r',cap',c',ee',hφ',hrs',hc',hsz',hlb',hle'⟩⟩ := hk'.inv_own
        · have : φ i = none := hφ'
          have h4 : φ i = some r := hφ
          rw [h4] at this; cases this
        · cases hrs'
          exact .own i off (len + m) lb k r cap c' ee' hN' hφ' hc' hsz' hlb' (by omega)
    · rename_i hroom
      split at h
      case isFalse => cases h
      rename_i hoff
      subst hoff
      simp only [Option.some.injEq,Prod.mk.injEq] at h
      obtain ⟨rfl,rfl,rfl⟩ := h
      obtain ⟨hpx,hfit,hcell,hf⟩ := hp
      have hso : srcA k (.own i 0 len lb k) H = some (len,(cs.drop 0).take (len * k),0 + len * k ≤ cs.length ∧ ∀ u ∈ (cs.drop 0).take (len * k),u.isCell = true) := by simp [srcA,hi]
      have kill := fun {φ1 : Nat → Option Nat} {w1 : World} (hn : Nx B G φ H w φ1 (pl H (.cells (cs.take (len * k) ++ xc))) w1) => 
        nx_kill (B := B) hn.sim (i := i) (b := .cells cs) (by rw [(hpl _).get,if_neg ((hpl (.cells [])).ne hi (by simp))]; exact hi)
      have hcomm : (pl H (.cells (cs.take (len * k) ++ xc))).set i .dead = pl (H.set i .dead) (.cells (cs.take (len * k) ++ xc)) := by
        have hni : i ≠ n := (hpl (.cells [])).ne hi (by simp)
        have hilt : i < H.length := (List.getElem?_eq_some_iff.1 hi).1
        have hil2 : i < (pl H (.cells (cs.take (len * k) ++ xc))).length := by
          have : (pl H (.cells (cs.take (len * k) ++ xc)))[i]? = some (.cells cs) := by rw [(hpl _).get,if_neg hni]; exact hi
          exact (List.getElem?_eq_some_iff.1 this).1
        apply List.ext_getElem?
        intro j
        rw [(hpl2 i _ _ hi (by simp)).get,List.getElem?_set,List.getElem?_set,(hpl _).get]
        by_cases h1 : i = j
        · subst h1; simp [hil2,hilt,hni]
        · simp [h1]
      obtain ⟨hN,⟨hφ,_,rfl,rfl,a,hrs⟩ | ⟨r,cap,c,ee,hφ,hrs,hc,hsz,hlb,hle⟩⟩ := h1.inv_own
      · obtain ⟨rv,w',φ',hrun,hn,hr,_⟩ := anew hso (And.intro (by omega) (by simp)) hsx hpx hrs (by omega) hf
        simp only [List.drop_zero] at hn hr
        have hkl := kill hn
        rw [hcomm] at hkl
        exact ⟨rv,w',φ',hrun,hn.trans hkl,hr.mono hkl.le⟩
      · by_cases hcap : len + m ≤ cap
        · obtain ⟨w',hrun,hn⟩ := inplace hφ hrs hc hsz hcap (by omega)
          -- the block goes on under the new number
          simp only [Nat.zero_add] at hn
          have hilt : i < H.length := (List.getElem?_eq_some_iff.1 hi).1
          have hsh := nx_shrink (B := B) hn.sim (i := i) (cs := cs.take (len * k) ++ xc ++ cs.drop (len * k + m * k)) (by simp [hilt]) ((cs.take (len * k) ++ xc).length)
          rw [List.set_set,List.take_left' rfl] at hsh
          have hmv := nx_move (B := B) hsh.sim (i := i) (n := n) (b := .cells (cs.take (len * k) ++ xc)) (H' := pl (H.set i .dead) (.cells (cs.take (len * k) ++ xc))) (by simp [hilt]) rfl (by rw [List.set_set]; exact hpl2 i _ _ hi (by simp)) hB
          refine ⟨_,w',_,hrun,(hn.trans hsh).trans hmv,?_⟩
          have hk' := h1.mono ((hn.trans hsh).trans hmv).le
          rw [hrs] at hk'
          have hni : i ≠ n := (hpl (.cells [])).ne hi (by simp)
          obtain ⟨hN',⟨hφ',_⟩ | ⟨r',cap',c',ee',hφ',hrs',hc',hsz',hlb',hle'⟩⟩ := hk'.inv_own
          · have h3 : up φ n (φ i) i = none := hφ'
            rw [up_ne hni] at h3
            have h4 : φ i = some r := hφ
            rw [h4] at h3; cases h3
          · cases hrs'
            exact .own n 0 (len + m) (len + m) k r cap c' ee' (dom_new (hpl2 i _ _ hi (by simp)) (by simp)) (by show up φ n (φ i) n = some r; rw [up_same]; exact hφ) hc' hsz' hcap hcap
        · obtain ⟨rv,w',φ',hrun,hn,hr,_⟩ := anew hso (And.intro (by omega) (by simpa using hcell)) hsx hpx hrs (by omega) hf
          simp only [List.drop_zero] at hn hr
          have hkl := kill hn
          rw [hcomm] at hkl
          exact ⟨rv,w',φ',hrun,hn.trans hkl,hr.mono hkl.le⟩
  · cases h
theorem app2_sound (hs : SimH φ G H w) {t e : TypeId} {k bytes : Nat} (ht : P.underlying t = some (.slice e)) (hk : tSize P e = some k) (hby : tBytes P e = some bytes) {z : List AVal} (hz : tZero P e = some z) (hzk : z.length = k) (hb0 : bytes ≠ 0)
    {t2 : TypeId} (ht2 : ∃ e2,P.underlying t2 = some (.slice e2)) {ty : TypeId} {n : Nat} {pl : AHeap → Blk → AHeap} (hpl : ∀ b,NewAt H n b (pl H b)) (hpl2 : ∀ i b c,H[i]? = some b → b ≠ .hole → NewAt (H.set i .dead) n c (pl (H.set i .dead) c)) (hB : B ≤ n)
    {i off len lb m : Nat} {cs xc : List AVal} {px : Prop} {x : AVal} {rs rx : Value} (hsx : srcA k x H = some (m,xc,px)) (hpx : px) (hi : H[i]? = some (.cells cs)) (hm : 0 < m) (hfit : off + len * k ≤ cs.length) (hcell : ∀ u ∈ (cs.drop off).take (len * k),u.isCell = true) (hf : (len + m) * bytes ≤ 2 ^ 40)
    (h1 : Rep (env φ G H w) (.own i off len lb k) rs) (h2 : Rep (env φ G H w) x rx) :
    ∃ rv w' φ',(Builtin.append_ #[t,t2] ty #[rs,rx]).run P w = .ok rv w' ∧
      ((Nx B G φ H w φ' (H.set i (.cells (cs.take (off + len * k) ++ xc ++ cs.drop (off + len * k + m * k)))) w' ∧ Rep (env φ' G (H.set i (.cells (cs.take (off + len * k) ++ xc ++ cs.drop (off + len * k + m * k)))) w') (.own i off (len + m) (len + m) k) rv) ∨
       (Nx B G φ H w φ' (pl (H.set i .dead) (.cells ((cs.drop off).take (len * k) ++ xc))) w' ∧ Rep (env φ' G (pl (H.set i .dead) (.cells ((cs.drop off).take (len * k) ++ xc))) w') (.own n 0 (len + m) (len + m) k) rv)) := by
  have hd := nx_drew (B := B) hs
  let s : AVal := .own i off len lb k
  have h1 : Rep (env φ G H w) s rs := h1
  -- a row made anew,whatever s was
  have anew : ∀ {base : Option Addr} {len cap m : Nat} {oc xc : List AVal} {po px : Prop},srcA k s H = some (len,oc,po) → po → srcA k x H = some (m,xc,px) → px → rs = .slice base len cap → cap < len + m → (len + m) * bytes ≤ 2 ^ 40 →
      ∃ rv w' φ',(Builtin.append_ #[t,t2] ty #[rs,rx]).run P w = .ok rv w' ∧ Nx B G φ H w φ' (pl H (.cells (oc ++ xc))) w' ∧ Rep (env φ' G (pl H (.cells (oc ++ xc))) w') (.own n 0 (len + m) (len + m) k) rv ∧ φ' = up φ n (some w.heap.size) := by
    intro base len cap m oc xc po px hso hpo hsx hpx hrs hg hf
    subst hrs
    obtain ⟨_,_,hol,vo,hvo,hro⟩ := src_sound (P := P) hd.sim hso hpo (h1.mono hd.le)
    obtain ⟨hlen,_,hxl,vx,hvx,hrx⟩ := src_sound (P := P) hd.sim hsx hpx (h2.mono hd.le)
    obtain ⟨hlen0,_⟩ := src_sound (P := P) hs hsx hpx h2
    have eo : vo.extract 0 (len * k) = vo := by rw [← hol,← hvo.1,Array.extract_size]
    have ex : vx.extract 0 (m * k) = vx := by rw [← hxl,← hvx.1,Array.extract_size]
    have ho := hro len (Nat.le_refl _)
    have hx := hrx m (Nat.le_refl _)
    rw [eo] at ho; rw [ex] at hx
    obtain ⟨newCap,rest,hle,hsz,hrun⟩ := run_append_new (P := P) (w := w) ht hk hby hz hzk hb0 ht2 (ty := ty) hlen0 hx ho (by rw [hvo.1,hol]) (by rw [hvx.1,hxl]) hg hf
    have hcr := hvo.append hvx
    have hnr := nx_row (B := B) hd.sim (hpl (.cells (oc ++ xc))) hB (c := vo ++ vx ++ rest) (t := e) (by have := hcr.1; simp at this ⊢; omega) (fun j q hq => by
      have hlt : j < (oc ++ xc).length := (List.getElem?_eq_some_iff.1 hq).1
      have := hcr.2 j q hq
      have h3 : j < (vo ++ vx).size := by rw [hcr.1]; exact hlt
      rw [Array.getD_eq_getD_getElem?,Array.getElem?_eq_getElem h3] at this
      rw [Array.getD_eq_getD_getElem?,Array.getElem?_append_left h3,Array.getElem?_eq_getElem h3]
      exact this)
    refine ⟨_,_,_,hrun,hd.trans hnr,?_,rfl⟩
    refine .own n 0 (len + m) (len + m) k w.heap.size newCap (vo ++ vx ++ rest) e (dom_new (hpl _) (by simp)) (up_same _ _ _) ?_ (by omega) hle hle
    show (w.drew.heap.push (.cells (vo ++ vx ++ rest) e))[w.drew.heap.size]? = _
    rw [Array.getElem?_push,if_pos rfl]
  obtain ⟨hlen,hcx,hxl,vx,hvx,hrx⟩ := src_sound (P := P) hs hsx hpx h2
  have hx := hrx m (Nat.le_refl _)
  have ex : vx.extract 0 (m * k) = vx := by rw [← hxl,← hvx.1,Array.extract_size]
  rw [ex] at hx
  -- in place
  have inplace : ∀ {r cap : Nat} {c : Array Value} {ee : TypeId},φ i = some r → rs = .slice (some ⟨r,off,none⟩) len cap → w.heap[r]? = some (.cells c ee (0,0)) → off + cap * k ≤ c.size → len + m ≤ cap → off + len * k ≤ cs.length →
      ∃ w',(Builtin.append_ #[t,t2] ty #[rs,rx]).run P w = .ok (.slice (some ⟨r,off,none⟩) (len + m) cap) w' ∧ Nx B G φ H w φ (H.set i (.cells (cs.take (off + len * k) ++ xc ++ cs.drop (off + len * k + m * k)))) w' := by
    intro r cap c ee hφ hrs hc hsz hroom hfit
    have hmul : off + len * k + m * k ≤ c.size := by
      have : (len + m) * k ≤ cap * k := Nat.mul_le_mul_right k hroom
      rw [Nat.add_mul] at this; omega
    obtain ⟨w',hw,hn⟩ := store_cells (P := P) (B := B) hs hi hφ hc hvx hcx (off := off + len * k) hfit (by omega)
    rw [hxl] at hn
    exact ⟨w',by rw [hrs]; exact run_append_room' ht hk ht2 hlen hx hroom hw,hn⟩
  have hso : srcA k s H = some (len,(cs.drop off).take (len * k),off + len * k ≤ cs.length ∧ ∀ u ∈ (cs.drop off).take (len * k),u.isCell = true) := by simp [s,srcA,hi]
  have kill := fun {φ1 : Nat → Option Nat} {w1 : World} (hn : Nx B G φ H w φ1 (pl H (.cells ((cs.drop off).take (len * k) ++ xc))) w1) =>
    nx_kill (B := B) hn.sim (i := i) (b := .cells cs) (by rw [(hpl _).get,if_neg ((hpl (.cells [])).ne hi (by simp))]; exact hi)
  have hcomm : (pl H (.cells ((cs.drop off).take (len * k) ++ xc))).set i .dead = pl (H.set i .dead) (.cells ((cs.drop off).take (len * k) ++ xc)) := by
    have hni : i ≠ n := (hpl (.cells [])).ne hi (by simp)
    have hilt : i < H.length := (List.getElem?_eq_some_iff.1 hi).1
    have hil2 : i < (pl H (.cells ((cs.drop off).take (len * k) ++ xc))).length := by
      have : (pl H (.cells ((cs.drop off).take (len * k) ++ xc)))[i]? = some (.cells cs) := by rw [(hpl _).get,if_neg hni]; exact hi
      exact (List.getElem?_eq_some_iff.1 this).1
    apply List.ext_getElem?
    intro j
    rw [(hpl2 i _ _ hi (by simp)).get,List.getElem?_set,List.getElem?_set,(hpl _).get]
    by_cases h1 : i = j
    · subst h1; simp [hil2,hilt,hni]
    · simp [h1]
  have fresh : ∀ {base : Option Addr} {cap : Nat},rs = .slice base len cap → cap < len + m → ∃ rv w' φ',(Builtin.append_ #[t,t2] ty #[rs,rx]).run P w = .ok rv w' ∧ Nx B G φ H w φ' (pl (H.set i .dead) (.cells ((cs.drop off).take (len * k) ++ xc))) w' ∧ Rep (env φ' G (pl (H.set i .dead) (.cells ((cs.drop off).take (len * k) ++ xc))) w') (.own n 0 (len + m) (len + m) k) rv := by
    intro base cap hrs hc
    obtain ⟨rv,w',φ',hrun,hn,hr,_⟩ := anew hso ⟨hfit,hcell⟩ hsx hpx hrs hc hf
    have hkl := kill hn
    rw [hcomm] at hkl
    exact ⟨rv,w',φ',hrun,hn.trans hkl,hr.mono hkl.le⟩
  obtain ⟨hN,⟨hφ,h0,h3,h4,a,hrs⟩ | ⟨r,cap,c,ee,hφ,hrs,hc,hsz,hlb,hle⟩⟩ := h1.inv_own
  · subst h3
    obtain ⟨rv,w',φ',h⟩ := fresh hrs (by omega)
    exact ⟨rv,w',φ',h.1,.inr h.2⟩
  · by_cases hcap : len + m ≤ cap
    · obtain ⟨w',hrun,hn⟩ := inplace hφ hrs hc hsz hcap hfit
      refine ⟨_,w',φ,hrun,.inl ⟨hn,?_⟩⟩
      have hk' := h1.mono hn.le
      rw [hrs] at hk'
      obtain ⟨hN',⟨hφ',_⟩ | ⟨r',cap',c',ee',hφ',hrs',hc',hsz',hlb',hle'⟩⟩ := hk'.inv_own
      · have : φ i = none := hφ'
        have h4 : φ i = some r := hφ
        rw [h4] at this; cases this
      · cases hrs'
        exact .own i off (len + m) (len + m) k r cap c' ee' hN' hφ' hc' hsz' hcap (by omega)
    · obtain ⟨rv,w',φ',h⟩ := fresh hrs (by omega)
      exact ⟨rv,w',φ',h.1,.inr h.2⟩
end
end Go.Abs
