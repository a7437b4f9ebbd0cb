/- Sorting: the library's contract of slices.SortFunc,read as a contract over abstract values. -/
import Derived.Test.YtlonaefihjdkpaaAG
import Derived.Shelf.SlSortCmp.NoneTotal
namespace Go.Abs
open AVal Go.Sort Go.Proofs
theorem getD_ofFn {α : Type} [Inhabited α] {n : Nat} (f : Fin n → α) {j : Nat} (h : j < n) : (Array.ofFn f)[j]! = f ⟨j,h⟩ := by
  rw [getElem!_pos _ _ (by simpa using h)]; simp
theorem putCells_size {α : Type} [Inhabited α] (enc : α → Value) (off : Nat) (d : Array α) (c : Array Value) : (putCells enc off d c).size = c.size := by simp [putCells]
theorem putCells_get {α : Type} [Inhabited α] (enc : α → Value) (d : Array α) (c : Array Value) {j : Nat} (hj : j < c.size) : (putCells enc 0 d c).getD j undef = if j < d.size then enc d[j]! else c.getD j undef := by
  simp only [putCells,Array.getD_eq_getD_getElem?,Array.getElem?_mapIdx,Array.getElem?_eq_getElem hj,Option.map_some,Option.getD_some,Nat.zero_le,true_and,Nat.zero_add,Nat.sub_zero]
section
variable {P : Program} {ρ : Go.Shelf.Ren}
theorem sort_world {α : Type} [Inhabited α] {enc : α → Value} {w : World} {r m : Nat} {dk : Array α} {os : Array Obj} {c : Array Value} {e : TypeId} (hc : w.heap[r]? = some (.cells c e (0,0))) :
    (∀ q,q < w.heap.size → (sortWorld enc w r 0 m dk os).heap[q]? = (w.setRow r (putCells enc 0 dk c)).heap[q]?) ∧ w.heap.size ≤ (sortWorld enc w r 0 m dk os).heap.size := by
  have hr : r < w.heap.size := (Array.getElem?_eq_some_iff.1 hc).1
  refine ⟨fun q hq => ?_,?_⟩
  · unfold sortWorld grow putRow mapBlock Go.Sort.ahead
    show ((w.heap.modify r (onCells (putCells enc 0 dk))) ++ os)[q]? = _
    rw [Array.getElem?_append_left (by simpa using hq)]
    by_cases h : q = r
    · subst h
      rw [setRow_heap w q c _ e (0,0) hc]
      simp only [Array.getElem?_modify,if_true,hc,Option.map_some]
      rfl
    · rw [heap_setRow_other w r q _ h]
      simp only [Array.getElem?_modify,if_neg (Ne.symm h)]
  · simp [sortWorld,grow,putRow,mapBlock,Go.Sort.ahead]
theorem grown_of {w w' : World} (hsz : w.heap.size ≤ w'.heap.size) (hf : ∀ q,q < w.heap.size → w'.heap[q]? = w.heap[q]?) (ho : w'.os = w.os) (ht : w'.tape = w.tape) (hp : w'.output = w.output) (hd : w.drawn ≤ w'.drawn) :
    ∃ q os,w' = grow (w.drewN q) os := by
  refine ⟨w'.drawn - w.drawn,w'.heap.extract w.heap.size w'.heap.size,?_⟩
  have hh : w'.heap = w.heap ++ w'.heap.extract w.heap.size w'.heap.size := by
    apply Array.ext_getElem?
    intro q
    by_cases h : q < w.heap.size
    · rw [Array.getElem?_append_left h,hf q h]
    · rw [Array.getElem?_append_right (by omega),Array.getElem?_extract]
      by_cases h2 : q < w'.heap.size
      · rw [if_pos (by omega)]; congr 1; omega
      · rw [if_neg (by omega),Array.getElem?_eq_none (by omega)]
  obtain ⟨h1,t1,d1,o1,p1⟩ := w
  obtain ⟨h2,t2,d2,o2,p2⟩ := w'
  simp only at hh ho ht hp hd
  subst ho ht hp
  unfold grow World.drewN
  simp only [World.mk.injEq,true_and,and_true]
  exact ⟨hh,by omega⟩
theorem CallV.sortFunc (L : SlLaysF.n6 P ρ) {α : Type} (ab : α → AVal) (h1 : ∀ E x v,Rep E (ab x) v → v.oneCell' = true) (h2 : ∀ H x,vle H [] [] 3 (ab x) (ab x)) (cf : α → α → Int) (hO : SWO (ltOf cf)) {g : FuncId}
    (hg : ∀ x y,Spec P g [ab x,ab y] [] fun v' H' => H' = [] ∧ v' = I (cf x y)) {H : AHeap} {i n lb : Nat} {xs : List α} {rest : List AVal} (hn : n = xs.length) (hi : H[i]? = some (.cells (xs.map ab ++ rest))) (hsz : n < 4611686018427387904) :
    CallV P (.fn (.func (ρ.f 6)) [] []) [.own i 0 n lb 1,.fn (.func g) [] []] H fun v' H' => v' = .tup [] ∧ ∃ ys : List α,ys.Perm xs ∧ ys.Pairwise (fun a b => ltOf cf b a = false) ∧ H' = H.set i (.cells (ys.map ab ++ rest)) := by
  subst hn
  refine CallV.of_spec (first := []) (cap := []) ⟨L.f6.enters rfl,fun φ G w rargs hs hr => ?_⟩
  obtain ⟨hr1,hr2⟩ := hr
  obtain ⟨a0,a1,rfl⟩ : ∃ a0 a1,rargs = #[a0,a1] := by
    obtain ⟨l,rfl,hl⟩ := CRep.list ⟨hr1,hr2⟩
    match l,hl with
    | [a,b],_ => exact ⟨a,b,rfl⟩
  have r0 : Rep (env φ G H w) (.own i 0 xs.length lb 1) a0 := hr2 0 _ rfl
  have r1 : Rep (env φ G H w) (.fn (.func g) [] []) a1 := hr2 1 _ rfl
  obtain ⟨fs,cs,rfl,hfs,hcs,_,_⟩ := r1.inv_fn
  have hfs : fs = #[] := by simpa using hfs
  have hcs : cs = #[] := by simpa using hcs
  subst hfs hcs
  have hself : H.set i (.cells (xs.map ab ++ rest)) = H := by
    obtain ⟨hlt,he⟩ := List.getElem?_eq_some_iff.1 hi
    rw [← he]; exact List.set_getElem_self hlt
  have hnil : ∀ p cap,xs = [] → CallsIn Fence.wide 0 P (ρ.f 6) #[.slice p 0 cap,.func (.func g) #[] #[]] w fun e w' => ∃ rv,e = .returned rv ∧ After (fun v' H' => v' = .tup [] ∧ ∃ ys : List α,ys.Perm xs ∧ ys.Pairwise (fun a b => ltOf cf b a = false) ∧ H' = H.set i (.cells (ys.map ab ++ rest))) φ G H w rv w' := by
    intro p cap hx
    refine callsIn_wide.2 ((AnyF.slices_SortFunc_none (ρ := ρ) { L with } p cap (.func (.func g) #[] #[]) w).mono fun e w' ⟨he,hw⟩ => ?_)
    subst hw
    refine ⟨_,he,.tup [],H,φ,⟨rfl,xs,.refl _,?_,hself.symm⟩,hs,.refl _ _ _ _,.tup _ _ rfl (fun j u hu => by simp at hu)⟩
    rw [hx]; exact .nil
  by_cases hx : xs = []
  · subst hx
    generalize hN : ([] : List α).length = N at r0
    cases r0 with
    | ownnil i k a hd hp => exact hnil _ _ rfl
    | own i off len lb k r cap c e hd hp hc hs9 hlb hl => cases hN; exact hnil _ _ rfl
  generalize hN : xs.length = N at r0
  cases r0 with
  | ownnil i k a hd hp => exact absurd (List.eq_nil_of_length_eq_zero hN) hx
  | own i off len lb k r cap c e hd hp hc hs9 hlb hl =>
  subst hN
  have hp : φ i = some r := hp
  have hc : w.heap[r]? = some (.cells c e (0,0)) := hc
  have hblk := hs.blk i _ hi
  rw [hp] at hblk
  obtain ⟨c2,e2,hc2,hle,hcells⟩ := hblk
  have hc2 : w.heap[r]? = some (.cells c2 e2 (0,0)) := hc2
  rw [hc] at hc2
  obtain ⟨rfl,rfl⟩ : c = c2 ∧ e = e2 := by simpa using hc2
  have hle' : xs.length + rest.length ≤ c.size := by simpa using hle
  have hx0 : 0 < xs.length := List.length_pos_iff.2 hx
  have hcell : ∀ j (hj : j < xs.length),Rep (env φ G H w) (ab xs[j]) (c.getD j undef) := fun j hj => hcells j _ (by rw [List.getElem?_append_left (by simpa using hj)]; simp [hj])
  let β := { p : Value × α // Rep (env φ G H w) (ab p.2) p.1 }
  let el : Fin xs.length → β := fun j => ⟨(c.getD j.1 undef,xs[j.1]),hcell j.1 j.2⟩
  letI : Inhabited β := ⟨el ⟨0,hx0⟩⟩
  let enc : β → Value := fun p => p.1.1
  let d : Array β := Array.ofFn el
  have hd : d.size = xs.length := by simp [d]
  have hdm : d.toList.map (fun p => p.1.2) = xs := by
    apply List.ext_getElem
    · simp [d]
    · intro j h1 h2; simp [d,el]
  have hH : Holds enc w r 0 d := by
    intro j hj
    rw [hd] at hj
    rw [show d[j]! = el ⟨j,hj⟩ from getD_ofFn el hj,Nat.zero_add]
    have hjc : j < c.size := by omega
    constructor
    · unfold World.cell?
      simp only [hc]
      simp [enc,el,hjc]
    · unfold World.frozen?
      simp only [hc]
      simp
  let Hd : Array β → AHeap := fun dk => H.set i (.cells (dk.toList.map (fun p => ab p.1.2) ++ rest))
  have hsim : ∀ (m : Nat) (os : Array Obj) (dk : Array β),dk.size = d.size → SimH φ G (Hd dk) (sortWorld enc w r 0 m dk os) ∧ StepR H.length φ H w φ (Hd dk) (sortWorld enc w r 0 m dk os) := by
    intro m os dk hdk
    have hnx := nx_set (B := H.length) (cs' := dk.toList.map (fun p => ab p.1.2) ++ rest) (c' := putCells enc 0 dk c) hs hi hp hc (putCells_size _ _ _ _) (by rw [putCells_size]; simp; omega) (fun j u hu => by
      have hjl : j < dk.size + rest.length := by have := (List.getElem?_eq_some_iff.1 hu).1; simpa using this
      rw [putCells_get enc dk c (by omega)]
      by_cases hj : j < dk.size
      · rw [if_pos hj]
        rw [List.getElem?_append_left (by simpa using hj)] at hu
        have hu : u = ab dk[j].1.2 := by simp [hj] at hu; exact hu.symm
        subst hu
        rw [getElem!_pos dk j hj]
        exact dk[j].2
      · rw [if_neg hj]
        refine hcells j u ?_
        rw [List.getElem?_append_right (by simp; omega)] at hu ⊢
        simpa [hdk,hd] using hu)
    obtain ⟨w1,w2⟩ := sort_world (enc := enc) (m := m) (dk := dk) (os := os) hc
    have hz : (w.setRow r (putCells enc 0 dk c)).heap.size = w.heap.size := by simp [World.setRow]
    refine ⟨sim_same hnx.sim (by rw [hz]; exact w2) (fun q hq => w1 q (by rw [← hz]; exact hq)),hnx.st.trans ?_⟩
    refine ⟨fun _ _ => rfl,fun _ _ h => h,fun h => h,fun _ h => .inl h,fun q hq _ => w1 q (by rw [← hz]; exact hq),fun q c e f hq => ⟨c,?_,rfl⟩,by rw [hz]; exact w2,rfl,rfl,rfl,Nat.le_add_right _ _⟩
    rw [w1 q (by rw [← hz]; exact (Array.getElem?_eq_some_iff.1 hq).1)]; exact hq
  have hE1 : OneCell enc := fun x => h1 _ _ _ x.2
  let cf' : β → β → Int := fun x y => cf x.1.2 y.1.2
  have hO' : SWO (ltOf cf') := ⟨fun x => hO.irrefl x.1.2,fun x y z => hO.trans x.1.2 y.1.2 z.1.2,fun x y z => hO.ntrans x.1.2 y.1.2 z.1.2⟩
  have hcmp : CmpLays1 P g #[] enc cf' r 0 d.size w := by
    intro m os dk hdk x y
    obtain ⟨k1,k2⟩ := hsim m os dk hdk
    have hE : WkE φ G (Hd dk) [] (sortWorld enc w r 0 m dk os) [] := ⟨k1,rfl,fun i => by simp,fun i b hi => by simp at hi,List.nodup_nil⟩
    have hs0 : SimH (wkφ φ []) G [] (sortWorld enc w r 0 m dk os) := ⟨k1.glt,fun i _ b _ _ hi => by simp at hi,fun i b r hi => by simp at hi,fun i b hi => by simp at hi⟩
    have hrep : ∀ z : β,Rep (env (wkφ φ []) G [] (sortWorld enc w r 0 m dk os)) (ab z.1.2) (enc z) := fun z => vle_sound hE 3 _ _ _ (h2 _ _) (z.2.mono k2.le)
    have hcr : CRep (env (wkφ φ []) G [] (sortWorld enc w r 0 m dk os)) [ab x.1.2,ab y.1.2] (#[enc x,enc y] ++ #[]) := ⟨rfl,fun j u hu => by
      match j,hu with
      | 0,hu => simp at hu; subst hu; exact hrep x
      | 1,hu => simp at hu; subst hu; exact hrep y
      | j + 2,hu => simp at hu⟩
    refine callsIn_wide.1 (((hg x.1.2 y.1.2).2 _ G _ _ hs0 hcr).mono fun e w' ⟨rv,he,v',H',φ1,⟨e1,e2⟩,h3,h4,h5⟩ => ?_)
    subst e1 e2
    cases h5
    exact ⟨he,grown_of h4.size (fun q hq => h4.frame q hq nil_owned) h4.os h4.tape h4.output h4.drawn⟩
  have hrun := Any.slices_SortFunc L enc hE1 cf' hO' g #[] r 0 cap d w (hg xs[0] xs[0]).1 hcmp hH (Array.getElem?_eq_some_iff.1 hc).1 (by rw [hd]; exact hsz)
  rw [hd] at hrun
  refine callsIn_wide.2 (hrun.mono fun e w' ⟨he,d',q,os,hp',hS,hw'⟩ => ?_)
  subst hw'
  obtain ⟨p1,-,p3⟩ := hp'
  have hd' : d'.size = d.size := p1
  obtain ⟨k1,k2⟩ := hsim q os d' hd'
  have hex : ∀ z : Array β,z.size = xs.length → (z.extract 0 xs.length).toList = z.toList := fun z hz => by rw [← hz,Array.extract_size]
  rw [hex d' (hd'.trans hd),hex d hd] at p3
  refine ⟨_,he,.tup [],Hd d',φ,⟨rfl,d'.toList.map (fun p => p.1.2),?_,?_,?_⟩,k1,k2,.tup _ _ rfl (fun j u hu => by simp at hu)⟩
  · have := p3.map (fun p : β => p.1.2)
    rwa [hdm] at this
  · rw [List.pairwise_map,List.pairwise_iff_getElem]
    intro a b ha hb hab
    have := hS a b (Nat.zero_le _) hab (by rw [← hd,← hd']; simpa using hb)
    rw [getElem!_pos d' b (by simpa using hb),getElem!_pos d' a (by simpa using ha)] at this
    exact this
  · simp [Hd,List.map_map,Function.comp_def]
end
end Go.Abs
