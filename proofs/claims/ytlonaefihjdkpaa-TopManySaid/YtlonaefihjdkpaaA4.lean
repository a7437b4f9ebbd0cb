/- Steps that turn the heap: a new block,a block written,a block let go,a block under a new number. -/
import Derived.Test.YtlonaefihjdkpaaA3
import Derived.Laws.Tables
import Derived.Laws.CopyRow
namespace Go.Abs
open AVal
structure Nx (B : Nat) (G : Nat → Prop) (φ : Nat → Option Nat) (H : AHeap) (w : World) (φ' : Nat → Option Nat) (H' : AHeap) (w' : World) : Prop where
  sim : SimH φ' G H' w'
  le : (env φ G H w).Le (env φ' G H' w')
  st : StepR B φ H w φ' H' w'
theorem Env.Le.trans {E E' E'' : Env} (h : E.Le E') (k : E'.Le E'') (hz : E.w.heap.size ≤ E'.w.heap.size) : E.Le E'' := by
  refine ⟨fun i hi => (k.fix i (h.dom i hi)).trans (h.fix i hi),fun i hi => k.dom i (h.dom i hi),fun b hb => ?_,fun r hr hx => ?_,fun r c e f hc => ?_⟩
  · rcases k.ex b hb with h1 | h1
    · exact h.ex b h1
    · exact .inr (Nat.le_trans hz h1)
  · rw [k.frame r (by omega) (h.notX hx hr),h.frame r hr hx]
  · obtain ⟨c',hc',hs⟩ := h.shape r c e f hc
    obtain ⟨c'',hc'',hs'⟩ := k.shape r c' e f hc'
    exact ⟨c'',hc'',hs'.trans hs⟩
theorem Nx.refl {B : Nat} {G : Nat → Prop} {φ : Nat → Option Nat} {H : AHeap} {w : World} (h : SimH φ G H w) : Nx B G φ H w φ H w := ⟨h,.refl _,.refl _ _ _ _⟩
theorem Nx.trans {B : Nat} {G : Nat → Prop} {φ φ' φ'' : Nat → Option Nat} {H H' H'' : AHeap} {w w' w'' : World} (h : Nx B G φ H w φ' H' w') (k : Nx B G φ' H' w' φ'' H'' w'') : Nx B G φ H w φ'' H'' w'' :=
  ⟨k.sim,h.le.trans k.le h.st.size,h.st.trans k.st⟩
theorem BlkRep.mono {E E' : Env} (h : E.Le E') {ri : Option Nat} {b : Blk} (hw : ∀ r,ri = some r → E'.w.heap[r]? = E.w.heap[r]?) (hb : BlkRep E ri b) : BlkRep E' ri b := by
  cases b with
  | hole => trivial
  | dead => trivial
  | cells cs =>
    cases ri with
    | none => exact hb
    | some r =>
      obtain ⟨c,e,hc,hl,hr⟩ := hb
      exact ⟨c,e,by rw [hw r rfl]; exact hc,hl,fun j u hu => (hr j u hu).mono h⟩
  | loop st pend fr n params assign body =>
    obtain ⟨r,fn,tmps,D,rfl,hc,hn,hf⟩ := hb
    exact ⟨r,fn,tmps,D,rfl,by rw [hw r rfl]; exact hc,hn,hf.mono h⟩
  | defs =>
    obtain ⟨r,rfl,hc⟩ := hb
    exact ⟨r,rfl,by rw [hw r rfl]; exact hc⟩
  | map es =>
    obtain ⟨r,c,rfl,hc,hs,hr⟩ := hb
    exact ⟨r,c,rfl,by rw [hw r rfl]; exact hc,hs,fun j p hj => by
      obtain ⟨e,he,hb,h1,h2⟩ := hr j p hj
      exact ⟨e,he,hb,h1.mono h,h2.mono h⟩⟩
  | iter m n seen =>
    obtain ⟨r,rm,rfl,hd,hm,hc⟩ := hb
    exact ⟨r,rm,rfl,h.dom m hd,by rw [h.fix m hd]; exact hm,by rw [hw r rfl]; exact hc⟩
theorem heap_setRow_other (w : World) (g k : Nat) (cs : Array Value) (h : k ≠ g) : (w.setRow g cs).heap[k]? = w.heap[k]? := by
  simp only [World.setRow,Array.getElem?_modify]
  rw [if_neg (Ne.symm h)]
theorem alive_ne_hole {b : Blk} (h : b.alive = true) : b ≠ .hole := by rintro rfl; cases h
section
variable {B : Nat} {G : Nat → Prop} {φ : Nat → Option Nat} {H : AHeap} {w : World}
theorem SimH.lt (h : SimH φ G H w) {i : Nat} {b : Blk} {r : Nat} (hi : H[i]? = some b) (ha : b.alive = true) (hφ : φ i = some r) : r < w.heap.size := by
  have := h.blk i b hi
  rw [hφ] at this
  cases b with
  | hole => cases ha
  | dead => cases ha
  | cells cs => obtain ⟨c,e,hc,_⟩ := this; exact (Array.getElem?_eq_some_iff.1 hc).1
  | loop st pend fr n params assign body => obtain ⟨r',fn,tmps,D,hr,hc,_⟩ := this; cases hr; exact (Array.getElem?_eq_some_iff.1 hc).1
  | defs => obtain ⟨r',hr,hc⟩ := this; cases hr; exact (Array.getElem?_eq_some_iff.1 hc).1
  | map es => obtain ⟨r',c,hr,hc,_⟩ := this; cases hr; exact (Array.getElem?_eq_some_iff.1 hc).1
  | iter m n seen => obtain ⟨r',rm,hr,_,_,hc⟩ := this; cases hr; exact (Array.getElem?_eq_some_iff.1 hc).1
theorem nx_set (hs : SimH φ G H w) {i r : Nat} {cs cs' : List AVal} {c c' : Array Value} {e : TypeId} (hi : H[i]? = some (.cells cs)) (hφ : φ i = some r) (hw : w.heap[r]? = some (.cells c e (0,0)))
    (hz : c'.size = c.size) (hl : cs'.length ≤ c'.size) (hr : ∀ (j : Nat) u,cs'[j]? = some u → Rep (env φ G H w) u (c'.getD j undef)) :
    Nx B G φ H w φ (H.set i (.cells cs')) (w.setRow r c') := by
  have hilt : i < H.length := (List.getElem?_eq_some_iff.1 hi).1
  have hget : ∀ j,(H.set i (.cells cs'))[j]? = if j = i then some (.cells cs') else H[j]? := fun j => by
    rw [List.getElem?_set]
    by_cases h : i = j
    · subst h; simp [hilt]
    · simp [h,Ne.symm h]
  have hdom : ∀ j,Dom H j ↔ Dom (H.set i (.cells cs')) j := fun j => by
    unfold Dom; rw [hget j]
    by_cases h : j = i
    · subst h; simp [hi]
    · simp [h]
  have hown : ∀ q,Owned φ (H.set i (.cells cs')) q ↔ Owned φ H q := fun q => by
    constructor
    · rintro ⟨j,b,hj,ha,hq⟩
      rw [hget j] at hj
      by_cases h : j = i
      · subst h; exact ⟨j,_,hi,rfl,hq⟩
      · rw [if_neg h] at hj; exact ⟨j,b,hj,ha,hq⟩
    · rintro ⟨j,b,hj,ha,hq⟩
      by_cases h : j = i
      · subst h; exact ⟨j,.cells cs',by rw [hget]; simp,rfl,hq⟩
      · exact ⟨j,b,by rw [hget,if_neg h]; exact hj,ha,hq⟩
  have hri : Owned φ H r := ⟨i,_,hi,rfl,hφ⟩
  have hle : (env φ G H w).Le (env φ G (H.set i (.cells cs')) (w.setRow r c')) := by
    refine ⟨fun _ _ => rfl,fun j hj => (hdom j).1 hj,fun b hb => ?_,fun q _ hx => ?_,fun q d e' f hd => ?_⟩
    · rcases hb with hb | hb
      · exact .inl (.inl hb)
      · exact .inl (.inr ((hown b).1 hb))
    · exact heap_setRow_other w r q c' (fun h => hx (.inr (by rw [h]; exact hri)))
    · have hd' : w.heap[q]? = some (.cells d e' f) := hd
      by_cases h : q = r
      · subst h
        rw [hw] at hd'
        cases hd'
        exact ⟨c',setRow_heap w q c c' e (0,0) hw,hz⟩
      · exact ⟨d,by show (w.setRow r c').heap[q]? = _; rw [heap_setRow_other w r q c' h]; exact hd',rfl⟩
  refine ⟨⟨fun q hq => by show q < (w.heap.modify r _).size; simpa using hs.glt q hq,fun j k b d q hj hk ha hb hjq hkq => ?_,fun j b q hj ha hq => ?_,fun j b hj => ?_⟩,hle,⟨fun _ _ => rfl,fun j _ hj => (hdom j).1 hj,fun h => by simpa using h,fun q hq => .inl ((hown q).1 hq),fun q hq hx => ?_,hle.shape,?_,rfl,rfl,rfl,Nat.le_refl _⟩⟩
  · rw [hget] at hj hk
    by_cases h1 : j = i
    · subst h1
      by_cases h2 : k = j
      · exact h2.symm
      · rw [if_neg h2] at hk; exact hs.inj j k _ d q hi hk rfl hb hjq hkq
    · rw [if_neg h1] at hj
      by_cases h2 : k = i
      · subst h2; exact hs.inj j k b _ q hj hi ha rfl hjq hkq
      · rw [if_neg h2] at hk; exact hs.inj j k b d q hj hk ha hb hjq hkq
  · rw [hget] at hj
    by_cases h1 : j = i
    · subst h1; exact hs.dis j _ q hi rfl hq
    · rw [if_neg h1] at hj; exact hs.dis j b q hj ha hq
  · rw [hget] at hj
    by_cases h1 : j = i
    · subst h1
      rw [if_pos rfl] at hj
      cases hj
      rw [hφ]
      exact ⟨c',e,setRow_heap w r c c' e (0,0) hw,hl,fun k u hu => (hr k u hu).mono hle⟩
    · rw [if_neg h1] at hj
      by_cases ha : b.alive = true
      · refine (hs.blk j b hj).mono hle (fun q hq => heap_setRow_other w r q c' (fun h => ?_))
        subst h
        exact h1 (hs.inj j i b _ q hj hi ha rfl hq hφ)
      · cases b <;> first | trivial | exact absurd rfl ha
  · exact heap_setRow_other w r q c' (fun h => hx (by rw [h]; exact hri))
  · show w.heap.size ≤ (w.heap.modify r _).size; simp
structure NewAt (H : AHeap) (i : Nat) (b : Blk) (H' : AHeap) : Prop where
  free : H[i]? = none ∨ H[i]? = some .hole
  get : ∀ j : Nat,H'[j]? = if j = i then some b else H[j]?
theorem NewAt.push (H : AHeap) (b : Blk) : NewAt H H.length b (H ++ [b]) :=
  ⟨.inl (by simp),fun j => by
    rw [List.getElem?_append]
    by_cases h : j < H.length
    · have : j ≠ H.length := by omega
      simp [h,this]
    · by_cases h2 : j = H.length
      · subst h2; simp
      · have : 1 ≤ j - H.length := by omega
        simp [h,h2]
        omega⟩
theorem NewAt.fill {H : AHeap} {i : Nat} (h : H[i]? = some .hole) (b : Blk) : NewAt H i b (H.set i b) :=
  ⟨.inr h,fun j => by
    have hilt : i < H.length := (List.getElem?_eq_some_iff.1 h).1
    rw [List.getElem?_set]
    by_cases h : i = j
    · subst h; simp [hilt]
    · simp [h,Ne.symm h]⟩
theorem NewAt.ne {H H' : AHeap} {i j : Nat} {b c : Blk} (h : NewAt H i b H') (hj : H[j]? = some c) (hc : c ≠ .hole) : j ≠ i := by
  rintro rfl
  rcases h.free with h | h <;> rw [hj] at h <;> cases h
  exact hc rfl
theorem NewAt.dom {H H' : AHeap} {i j : Nat} {b : Blk} (h : NewAt H i b H') (hj : Dom H j) : Dom H' j := by
  obtain ⟨c,hc,hn⟩ := hj
  exact ⟨c,by rw [h.get,if_neg (h.ne hc hn)]; exact hc,hn⟩
theorem NewAt.len {H H' : AHeap} {i B : Nat} {b : Blk} (h : NewAt H i b H') (hB : B ≤ i) (hl : B ≤ H.length) : B ≤ H'.length := by
  rcases Nat.eq_zero_or_pos B with h0 | h0
  · omega
  · have h1 : B - 1 < H.length := by omega
    have := h.get (B - 1)
    rw [if_neg (by omega),List.getElem?_eq_getElem h1] at this
    have := (List.getElem?_eq_some_iff.1 this).1
    omega
def up (φ : Nat → Option Nat) (i : Nat) (r : Option Nat) : Nat → Option Nat := fun j => if j = i then r else φ j
@[simp] theorem up_same (φ : Nat → Option Nat) (i : Nat) (r : Option Nat) : up φ i r i = r := by simp [up]
theorem up_ne {φ : Nat → Option Nat} {i j : Nat} {r : Option Nat} (h : j ≠ i) : up φ i r j = φ j := by simp [up,h]
theorem nx_alloc (hs : SimH φ G H w) {i : Nat} {b : Blk} {H' : AHeap} (hn : NewAt H i b H') (hB : B ≤ i) {o : Obj}
    (hb : ∀ E : Env,(env φ G H w).Le E → E.w = w.alloc o → BlkRep E (some w.heap.size) b) :
    Nx B G φ H w (up φ i (some w.heap.size)) H' (w.alloc o) := by
  have hφ' : ∀ j c,H[j]? = some c → c ≠ .hole → up φ i (some w.heap.size) j = φ j := fun j c hj hc => up_ne (hn.ne hj hc)
  have hold : ∀ q,q < w.heap.size → (w.alloc o).heap[q]? = w.heap[q]? := fun q hq => by
    show (w.heap.push o)[q]? = _
    rw [Array.getElem?_push,if_neg (by omega)]
  have hown : ∀ q,Owned (up φ i (some w.heap.size)) H' q → Owned φ H q ∨ w.heap.size ≤ q := by
    rintro q ⟨j,c,hj,ha,hq⟩
    rw [hn.get] at hj
    by_cases h : j = i
    · subst h; rw [up_same] at hq; cases hq; exact .inr (Nat.le_refl _)
    · rw [if_neg h] at hj; rw [up_ne h] at hq; exact .inl ⟨j,c,hj,ha,hq⟩
  have hle : (env φ G H w).Le (env (up φ i (some w.heap.size)) G H' (w.alloc o)) := by
    refine ⟨fun j hj => ?_,fun j hj => hn.dom hj,fun q hq => ?_,fun q hq _ => hold q hq,fun q d e f hd => ⟨d,?_,rfl⟩⟩
    · obtain ⟨c,hc,hne⟩ := hj; exact hφ' j c hc hne
    · rcases hq with hq | hq
      · exact .inl (.inl hq)
      · rcases hown q hq with h | h
        · exact .inl (.inr h)
        · exact .inr h
    · have hd' : w.heap[q]? = some (.cells d e f) := hd
      show (w.alloc o).heap[q]? = _
      rw [hold q (Array.getElem?_eq_some_iff.1 hd').1]; exact hd'
  refine ⟨⟨fun q hq => by have := hs.glt q hq; simp; omega,fun j k c d q hj hk ha hb' hjq hkq => ?_,fun j c q hj ha hq => ?_,fun j c hj => ?_⟩,hle,⟨fun j hj => up_ne (by omega),fun j _ hj => hn.dom hj,hn.len hB,hown,fun q hq _ => hold q hq,hle.shape,by simp,rfl,rfl,rfl,Nat.le_refl _⟩⟩
  · rw [hn.get] at hj hk
    by_cases h1 : j = i
    · subst h1
      by_cases h2 : k = j
      · exact h2.symm
      · rw [if_neg h2] at hk; rw [up_ne h2] at hkq; rw [up_same] at hjq; cases hjq
        have := hs.lt hk hb' hkq; omega
    · rw [if_neg h1] at hj; rw [up_ne h1] at hjq
      by_cases h2 : k = i
      · subst h2; rw [up_same] at hkq; cases hkq
        have := hs.lt hj ha hjq; omega
      · rw [if_neg h2] at hk; rw [up_ne h2] at hkq; exact hs.inj j k c d q hj hk ha hb' hjq hkq
  · rw [hn.get] at hj
    by_cases h1 : j = i
    · subst h1; rw [up_same] at hq; cases hq; exact fun hg => absurd (hs.glt _ hg) (by omega)
    · rw [if_neg h1] at hj; rw [up_ne h1] at hq; exact hs.dis j c q hj ha hq
  · rw [hn.get] at hj
    by_cases h1 : j = i
    · subst h1; rw [if_pos rfl] at hj; cases hj; rw [up_same]; exact hb _ hle rfl
    · rw [if_neg h1] at hj; rw [up_ne h1]
      by_cases ha : c.alive = true
      · exact (hs.blk j c hj).mono hle (fun q hq => hold q (hs.lt hj ha hq))
      · cases c <;> first | trivial | exact absurd rfl ha
theorem nx_virt (hs : SimH φ G H w) {i : Nat} {H' : AHeap} (hn : NewAt H i (.cells []) H') (hB : B ≤ i) : Nx B G φ H w (up φ i none) H' w := by
  have hown : ∀ q,Owned (up φ i none) H' q → Owned φ H q := by
    rintro q ⟨j,c,hj,ha,hq⟩
    rw [hn.get] at hj
    by_cases h : j = i
    · subst h; rw [up_same] at hq; cases hq
    · rw [if_neg h] at hj; rw [up_ne h] at hq; exact ⟨j,c,hj,ha,hq⟩
  have hle : (env φ G H w).Le (env (up φ i none) G H' w) := by
    refine ⟨fun j hj => ?_,fun j hj => hn.dom hj,fun q hq => ?_,fun q hq _ => rfl,fun q d e f hd => ⟨d,hd,rfl⟩⟩
    · obtain ⟨c,hc,hne⟩ := hj; exact up_ne (hn.ne hc hne)
    · rcases hq with hq | hq
      · exact .inl (.inl hq)
      · exact .inl (.inr (hown q hq))
  refine ⟨⟨hs.glt,fun j k c d q hj hk ha hb' hjq hkq => ?_,fun j c q hj ha hq => ?_,fun j c hj => ?_⟩,hle,⟨fun j hj => up_ne (by omega),fun j _ hj => hn.dom hj,hn.len hB,fun q hq => .inl (hown q hq),fun q hq _ => rfl,hle.shape,Nat.le_refl _,rfl,rfl,rfl,Nat.le_refl _⟩⟩
  · rw [hn.get] at hj hk
    by_cases h1 : j = i
    · subst h1; rw [up_same] at hjq; cases hjq
    · rw [if_neg h1] at hj; rw [up_ne h1] at hjq
      by_cases h2 : k = i
      · subst h2; rw [up_same] at hkq; cases hkq
      · rw [if_neg h2] at hk; rw [up_ne h2] at hkq; exact hs.inj j k c d q hj hk ha hb' hjq hkq
  · rw [hn.get] at hj
    by_cases h1 : j = i
    · subst h1; rw [up_same] at hq; cases hq
    · rw [if_neg h1] at hj; rw [up_ne h1] at hq; exact hs.dis j c q hj ha hq
  · rw [hn.get] at hj
    by_cases h1 : j = i
    · subst h1; rw [if_pos rfl] at hj; cases hj; rw [up_same]; rfl
    · rw [if_neg h1] at hj; rw [up_ne h1]
      exact (hs.blk j c hj).mono hle (fun q _ => rfl)
theorem nx_kill (hs : SimH φ G H w) {i : Nat} {b : Blk} (hi : H[i]? = some b) : Nx B G φ H w φ (H.set i .dead) w := by
  have hilt : i < H.length := (List.getElem?_eq_some_iff.1 hi).1
  have hget : ∀ j,(H.set i .dead)[j]? = if j = i then some .dead else H[j]? := fun j => by
    rw [List.getElem?_set]
    by_cases h : i = j
    · subst h; simp [hilt]
    · simp [h,Ne.symm h]
  have hdom : ∀ j,Dom H j → Dom (H.set i .dead) j := fun j hj => by
    obtain ⟨c,hc,hne⟩ := hj
    unfold Dom; rw [hget]
    by_cases h : j = i
    · exact ⟨.dead,by simp [h],by simp⟩
    · exact ⟨c,by rw [if_neg h]; exact hc,hne⟩
  have hown : ∀ q,Owned φ (H.set i .dead) q → Owned φ H q := by
    rintro q ⟨j,c,hj,ha,hq⟩
    rw [hget] at hj
    by_cases h : j = i
    · rw [if_pos h] at hj; cases hj; cases ha
    · rw [if_neg h] at hj; exact ⟨j,c,hj,ha,hq⟩
  have hle : (env φ G H w).Le (env φ G (H.set i .dead) w) :=
    ⟨fun _ _ => rfl,hdom,fun q hq => by
      rcases hq with hq | hq
      · exact .inl (.inl hq)
      · exact .inl (.inr (hown q hq)),fun _ _ _ => rfl,fun q d e f hd => ⟨d,hd,rfl⟩⟩
  refine ⟨⟨hs.glt,fun j k c d q hj hk ha hb' hjq hkq => ?_,fun j c q hj ha hq => ?_,fun j c hj => ?_⟩,hle,⟨fun _ _ => rfl,fun j _ hj => hdom j hj,fun h => by simpa using h,fun q hq => .inl (hown q hq),fun _ _ _ => rfl,hle.shape,Nat.le_refl _,rfl,rfl,rfl,Nat.le_refl _⟩⟩
  · rw [hget] at hj hk
    by_cases h1 : j = i
    · rw [if_pos h1] at hj; cases hj; cases ha
    · by_cases h2 : k = i
      · rw [if_pos h2] at hk; cases hk; cases hb'
      · rw [if_neg h1] at hj; rw [if_neg h2] at hk; exact hs.inj j k c d q hj hk ha hb' hjq hkq
  · rw [hget] at hj
    by_cases h1 : j = i
    · rw [if_pos h1] at hj; cases hj; cases ha
    · rw [if_neg h1] at hj; exact hs.dis j c q hj ha hq
  · rw [hget] at hj
    by_cases h1 : j = i
    · rw [if_pos h1] at hj; cases hj; trivial
    · rw [if_neg h1] at hj; exact (hs.blk j c hj).mono hle (fun q _ => rfl)
theorem nx_move (hs : SimH φ G H w) {i n : Nat} {b : Blk} {H' : AHeap} (hi : H[i]? = some b) (hb : b.alive = true) (hn : NewAt (H.set i .dead) n b H') (hB : B ≤ n) : Nx B G φ H w (up φ n (φ i)) H' w := by
  have hilt : i < H.length := (List.getElem?_eq_some_iff.1 hi).1
  have hget : ∀ j,(H.set i .dead)[j]? = if j = i then some .dead else H[j]? := fun j => by
    rw [List.getElem?_set]
    by_cases h : i = j
    · subst h; simp [hilt]
    · simp [h,Ne.symm h]
  have hni : n ≠ i := fun h => by
    subst h
    rcases hn.free with h | h <;> rw [hget] at h <;> simp at h
  have hg2 : ∀ j : Nat,H'[j]? = if j = n then some b else if j = i then some .dead else H[j]? := fun j => by rw [hn.get,hget]
  have hne : ∀ j c,H[j]? = some c → c ≠ .hole → j ≠ n := fun j c hj hc => by
    rintro rfl
    rcases hn.free with h | h <;> rw [hget,if_neg hni,hj] at h <;> cases h
    exact hc rfl
  have hdom : ∀ j,Dom H j → Dom H' j := fun j ⟨c,hc,hc'⟩ => by
    by_cases h : j = i
    · exact ⟨.dead,by rw [hg2,if_neg (hne j c hc hc'),if_pos h],by simp⟩
    · exact ⟨c,by rw [hg2,if_neg (hne j c hc hc'),if_neg h]; exact hc,hc'⟩
  have hown : ∀ q,Owned (up φ n (φ i)) H' q → Owned φ H q := by
    rintro q ⟨j,c,hj,ha,hq⟩
    rw [hg2] at hj
    by_cases h : j = n
    · subst h; rw [if_pos rfl] at hj; cases hj; rw [up_same] at hq; exact ⟨i,b,hi,ha,hq⟩
    · rw [if_neg h] at hj; rw [up_ne h] at hq
      by_cases h2 : j = i
      · rw [if_pos h2] at hj; cases hj; cases ha
      · rw [if_neg h2] at hj; exact ⟨j,c,hj,ha,hq⟩
  have hle : (env φ G H w).Le (env (up φ n (φ i)) G H' w) :=
    ⟨fun j ⟨c,hc,hc'⟩ => up_ne (hne j c hc hc'),hdom,fun q hq => by
      rcases hq with hq | hq
      · exact .inl (.inl hq)
      · exact .inl (.inr (hown q hq)),fun _ _ _ => rfl,fun q d e f hd => ⟨d,hd,rfl⟩⟩
  refine ⟨⟨hs.glt,fun j k c d q hj hk ha hb' hjq hkq => ?_,fun j c q hj ha hq => ?_,fun j c hj => ?_⟩,hle,⟨fun j hj => up_ne (by omega),fun j _ hj => hdom j hj,fun h => hn.len hB (by simpa using h),fun q hq => .inl (hown q hq),fun _ _ _ => rfl,hle.shape,Nat.le_refl _,rfl,rfl,rfl,Nat.le_refl _⟩⟩
  · rw [hg2] at hj hk
    by_cases h1 : j = n
    · subst h1
      by_cases h2 : k = j
      · exact h2.symm
      · rw [if_neg h2] at hk; rw [up_ne h2] at hkq; rw [up_same] at hjq
        by_cases h3 : k = i
        · rw [if_pos h3] at hk; cases hk; cases hb'
        · rw [if_neg h3] at hk; exact absurd (hs.inj i k b d q hi hk hb hb' hjq hkq).symm h3
    · rw [if_neg h1] at hj; rw [up_ne h1] at hjq
      by_cases h4 : j = i
      · rw [if_pos h4] at hj; cases hj; cases ha
      rw [if_neg h4] at hj
      by_cases h2 : k = n
      · subst h2; rw [up_same] at hkq; exact absurd (hs.inj j i c b q hj hi ha hb hjq hkq) h4
      · rw [if_neg h2] at hk; rw [up_ne h2] at hkq
        by_cases h3 : k = i
        · rw [if_pos h3] at hk; cases hk; cases hb'
        · rw [if_neg h3] at hk; exact hs.inj j k c d q hj hk ha hb' hjq hkq
  · rw [hg2] at hj
    by_cases h1 : j = n
    · subst h1; rw [up_same] at hq; exact hs.dis i b q hi hb hq
    · rw [if_neg h1] at hj; rw [up_ne h1] at hq
      by_cases h4 : j = i
      · rw [if_pos h4] at hj; cases hj; cases ha
      · rw [if_neg h4] at hj; exact hs.dis j c q hj ha hq
  · rw [hg2] at hj
    by_cases h1 : j = n
    · subst h1; rw [if_pos rfl] at hj; cases hj; rw [up_same]; exact (hs.blk i b hi).mono hle (fun q _ => rfl)
    · rw [if_neg h1] at hj; rw [up_ne h1]
      by_cases h4 : j = i
      · rw [if_pos h4] at hj; cases hj; trivial
      · rw [if_neg h4] at hj; exact (hs.blk j c hj).mono hle (fun q _ => rfl)
end
end Go.Abs
