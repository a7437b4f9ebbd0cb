/- Abstract values: what a Go value is,read as plain data (read-only slices as lists,owned blocks by a number),and how it lies in the model's memory. -/
import Derived.RangeFuncLeaves
import Derived.OrdersIn
import Derived.Laws.Sem
import Derived.Laws.World
namespace Go.Abs
inductive AVal where
  | any
  | val (v : Value)
  | sl (nn tight : Bool) (xs : List AVal)
  | rp (cs : List AVal)
  | own (i off len lb k : Nat)
  | ptr (i off : Nat)
  | fn (f : Fn) (first cap : List AVal)
  | agg (cs : List AVal)
  | tup (vs : List AVal)
  | yld (i : Nat)
  | mp (i : Nat)
  deriving Inhabited
abbrev AVal.I (n : Int) : AVal := .val (.int .i64 n)
abbrev AVal.B (b : Bool) : AVal := .val (.bool b)
abbrev AVal.nilSl : AVal := .val (.slice none 0 0)
def AVal.cells : AVal → List AVal
  | .agg cs => cs
  | v => [v]
def AVal.isCell : AVal → Bool
  | .val v => v.oneCell'
  | .sl .. | .rp .. | .own .. | .ptr .. | .fn .. | .yld .. | .mp .. => true
  | _ => false
structure Env where
  φ : Nat → Option Nat
  D : Nat → Prop
  X : Nat → Prop
  w : World
inductive Rep (E : Env) : AVal → Value → Prop
  | any (v) : Rep E .any v
  | val (v) : Rep E (.val v) v
  | slnil (t) : Rep E (.sl false t []) (.slice none 0 0)
  | sl0 (nn) (a : Addr) : Rep E (.sl nn false []) (.slice (some a) 0 0)
  | sl (nn tight) (xs : List AVal) (b off cap k : Nat) (f : Nat → Nat → Value)
      (h0 : 0 < k) (hb : xs ≠ [] → ¬ E.X b) (hl : xs.length ≤ cap) (ht : tight = true → cap = xs.length)
      (hk : ∀ (i : Nat) (e : AVal),xs[i]? = some e → e.cells.length = k)
      (hc : ∀ (i : Nat) (e : AVal),xs[i]? = some e → ∀ (j : Nat) u,e.cells[j]? = some u → E.w.cell? ⟨b,off + i * k + j,none⟩ = some (f i j))
      (hr : ∀ (i : Nat) (e : AVal),xs[i]? = some e → ∀ (j : Nat) u,e.cells[j]? = some u → Rep E u (f i j)) :
      Rep E (.sl nn tight xs) (.slice (some ⟨b,off,none⟩) xs.length cap)
  | rp (cs : List AVal) (b off : Nat) (f : Nat → Value) (hn : cs ≠ []) (hb : ¬ E.X b)
      (hc : ∀ (j : Nat) u,cs[j]? = some u → E.w.cell? ⟨b,off + j,none⟩ = some (f j))
      (hr : ∀ (j : Nat) u,cs[j]? = some u → Rep E u (f j)) : Rep E (.rp cs) (.pointer (some ⟨b,off,none⟩))
  | ownnil (i k : Nat) (a : Option (Nat × Nat)) (hi : E.D i) (h : E.φ i = none) : Rep E (.own i 0 0 0 k) (.slice (a.map fun p => ⟨p.1,p.2,none⟩) 0 0)
  | own (i off len lb k r cap : Nat) (c : Array Value) (e : TypeId) (hi : E.D i) (h : E.φ i = some r)
      (hc : E.w.heap[r]? = some (.cells c e (0,0))) (hs : off + cap * k ≤ c.size) (hlb : lb ≤ cap) (hl : len ≤ cap) :
      Rep E (.own i off len lb k) (.slice (some ⟨r,off,none⟩) len cap)
  | ptr (i off r : Nat) (hi : E.D i) (h : E.φ i = some r) : Rep E (.ptr i off) (.pointer (some ⟨r,off,none⟩))
  | fn (f : Fn) (first cap : List AVal) (fs cs : Array Value) (h1 : fs.size = first.length) (h2 : cs.size = cap.length)
      (r1 : ∀ (j : Nat) u,first[j]? = some u → Rep E u (fs.getD j undef)) (r2 : ∀ (j : Nat) u,cap[j]? = some u → Rep E u (cs.getD j undef)) :
      Rep E (.fn f first cap) (.func f fs cs)
  | agg (cs : List AVal) (vs : Array Value) (h : vs.size = cs.length) (r : ∀ (j : Nat) u,cs[j]? = some u → Rep E u (vs.getD j undef)) : Rep E (.agg cs) (.agg vs)
  | tup (cs : List AVal) (vs : Array Value) (h : vs.size = cs.length) (r : ∀ (j : Nat) u,cs[j]? = some u → Rep E u (vs.getD j undef)) : Rep E (.tup cs) (.tuple vs)
  | yld (i r : Nat) (hi : E.D i) (h : E.φ i = some r) : Rep E (.yld i) (.func (.yield r) #[] #[])
  | mp (i r : Nat) (hi : E.D i) (h : E.φ i = some r) : Rep E (.mp i) (.map (some r))
structure Env.Le (E E' : Env) : Prop where
  fix : ∀ i,E.D i → E'.φ i = E.φ i
  dom : ∀ i,E.D i → E'.D i
  ex : ∀ b,E'.X b → E.X b ∨ E.w.heap.size ≤ b
  frame : ∀ r,r < E.w.heap.size → ¬ E.X r → E'.w.heap[r]? = E.w.heap[r]?
  shape : ∀ (r : Nat) c e f,E.w.heap[r]? = some (.cells c e f) → ∃ c',E'.w.heap[r]? = some (.cells c' e f) ∧ c'.size = c.size
theorem cell_lt {w : World} {a : Addr} {v : Value} (h : w.cell? a = some v) : a.block < w.heap.size := World.block_lt_of_cell? w a h
theorem Env.Le.cell {E E' : Env} (h : E.Le E') {a : Addr} {v : Value} (hx : ¬ E.X a.block) (hc : E.w.cell? a = some v) : E'.w.cell? a = some v := by
  have := h.frame a.block (cell_lt hc) hx
  unfold World.cell? at *
  rw [this]; exact hc
theorem Env.Le.notX {E E' : Env} (h : E.Le E') {b : Nat} (hx : ¬ E.X b) (hb : b < E.w.heap.size) : ¬ E'.X b := fun hx' => by
  rcases h.ex b hx' with h' | h'
  · exact hx h'
  · omega
theorem Rep.mono {E E' : Env} (h : E.Le E') {v : AVal} {rv : Value} (hr : Rep E v rv) : Rep E' v rv := by
  induction hr with
  | any v => exact .any v
  | val v => exact .val v
  | slnil t => exact .slnil t
  | sl0 nn a => exact .sl0 nn a
  | sl nn tight xs b off cap k f h0 hb hl ht hk hc _ ih =>
    refine .sl nn tight xs b off cap k f h0 (fun hn => ?_) hl ht hk (fun i e he j u hu => ?_) (fun i e he j u hu => ih i e he j u hu)
    · obtain ⟨e0,xs',rfl⟩ : ∃ e xs',xs = e :: xs' := by
        cases xs with
        | nil => exact absurd rfl hn
        | cons a b => exact ⟨a,b,rfl⟩
      have hk0 := hk 0 e0 rfl
      obtain ⟨u0,us,hus⟩ : ∃ u us,e0.cells = u :: us := by
        cases hu : e0.cells with
        | nil => simp [hu] at hk0; omega
        | cons a b => exact ⟨a,b,rfl⟩
      exact h.notX (hb hn) (cell_lt (hc 0 e0 rfl 0 u0 (by simp [hus])))
    · exact h.cell (hb (by intro hn; subst hn; simp at he)) (hc i e he j u hu)
  | rp cs b off f hn hb hc _ ih =>
    obtain ⟨u0,us,rfl⟩ : ∃ u us,cs = u :: us := by
      cases cs with
      | nil => exact absurd rfl hn
      | cons a b => exact ⟨a,b,rfl⟩
    exact .rp _ b off f hn (h.notX hb (cell_lt (hc 0 u0 rfl))) (fun j u hu => h.cell hb (hc j u hu)) (fun j u hu => ih j u hu)
  | ownnil i k a hi h0 => exact .ownnil i k a (h.dom i hi) (by rw [h.fix i hi]; exact h0)
  | own i off len lb k r cap c e hi h0 hc hs hlb hl =>
    obtain ⟨c',hc',hsz⟩ := h.shape r c e _ hc
    exact .own i off len lb k r cap c' e (h.dom i hi) (by rw [h.fix i hi]; exact h0) hc' (by omega) hlb hl
  | ptr i off r hi h0 => exact .ptr i off r (h.dom i hi) (by rw [h.fix i hi]; exact h0)
  | fn f first cap fs cs h1 h2 _ _ i1 i2 => exact .fn f first cap fs cs h1 h2 (fun j u hu => i1 j u hu) (fun j u hu => i2 j u hu)
  | agg cs vs h' _ ih => exact .agg cs vs h' (fun j u hu => ih j u hu)
  | tup cs vs h' _ ih => exact .tup cs vs h' (fun j u hu => ih j u hu)
  | yld i r hi h0 => exact .yld i r (h.dom i hi) (by rw [h.fix i hi]; exact h0)
  | mp i r hi h0 => exact .mp i r (h.dom i hi) (by rw [h.fix i hi]; exact h0)
theorem Env.Le.refl (E : Env) : E.Le E := ⟨fun _ _ => rfl,fun _ h => h,fun _ h => .inl h,fun _ _ _ => rfl,fun _ c _ _ h => ⟨c,h,rfl⟩⟩
inductive Blk where
  | hole
  | dead
  | cells (cs : List AVal)
  | loop (st : LoopState) (pend : Option Code) (fr : List (Nat × AVal)) (n : Nat) (params : Array Tmp) (assign body : Code)
  | defs
  | map (es : List (AVal × AVal))
  | iter (m n : Nat) (seen : List Nat)
abbrev AHeap := List Blk
def Blk.alive : Blk → Bool
  | .dead | .hole => false
  | _ => true
abbrev Fr := List (Nat × AVal)
def Fr.get : Fr → Nat → AVal
  | [],_ => .any
  | (k,v) :: r,t => if k = t then v else Fr.get r t
def Fr.put (fr : Fr) (t : Nat) (v : AVal) : Fr := (t,v) :: fr
theorem Fr.get_put (fr : Fr) (t s : Nat) (v : AVal) : (fr.put t v).get s = if t = s then v else fr.get s := rfl
def Fr.norm (ks : List Nat) (fr : Fr) : Fr := ks.map fun k => (k,fr.get k)
theorem Fr.get_norm (fr : Fr) (t : Nat) : ∀ ks : List Nat,(fr.norm ks).get t = if t ∈ ks then fr.get t else .any
  | [] => by simp [Fr.norm,Fr.get]
  | k :: ks => by
    have ih := Fr.get_norm fr t ks
    simp only [Fr.norm,List.map_cons,Fr.get] at ih ⊢
    by_cases h : k = t
    · subst h; simp
    · rw [if_neg h]
      have : (t ∈ k :: ks) ↔ t ∈ ks := by simp [Ne.symm h]
      simp only [this]; exact ih
def FrRep (E : Env) (fr : Fr) (tmps : Array Value) : Prop := ∀ t,Rep E (fr.get t) (tmps.getD t undef)
theorem FrRep.norm {E : Env} {fr : Fr} {tmps : Array Value} (h : FrRep E fr tmps) (ks : List Nat) : FrRep E (fr.norm ks) tmps := fun t => by
  rw [Fr.get_norm]
  split
  · exact h t
  · exact .any _
def Owned (φ : Nat → Option Nat) (H : AHeap) (r : Nat) : Prop := ∃ i b,H[i]? = some b ∧ b.alive = true ∧ φ i = some r
def Dom (H : AHeap) (i : Nat) : Prop := ∃ b,H[i]? = some b ∧ b ≠ .hole
theorem Dom.lt {H : AHeap} {i : Nat} (h : Dom H i) : i < H.length := by
  obtain ⟨b,hb,_⟩ := h
  exact (List.getElem?_eq_some_iff.1 hb).1
def env (φ : Nat → Option Nat) (G : Nat → Prop) (H : AHeap) (w : World) : Env := ⟨φ,Dom H,fun r => G r ∨ Owned φ H r,w⟩
def BlkRep (E : Env) (ri : Option Nat) : Blk → Prop
  | .dead | .hole => True
  | .cells cs => match ri with
    | none => cs = []
    | some r => ∃ (c : Array Value) (e : TypeId),E.w.heap[r]? = some (.cells c e (0,0)) ∧ cs.length ≤ c.size ∧ ∀ (j : Nat) u,cs[j]? = some u → Rep E u (c.getD j undef)
  | .loop st pend fr n params assign body => ∃ r fn tmps D,ri = some r ∧ E.w.heap[r]? = some (.loop { state := st,pending := pend,fn,tmps,params,assign,body,defers := D }) ∧ tmps.size = n ∧ FrRep E fr tmps
  | .defs => ∃ r,ri = some r ∧ E.w.heap[r]? = some (.deferred (some []))
  | .map es => ∃ (r : Nat) (c : Array MapEntry),ri = some r ∧ E.w.heap[r]? = some (.map c es.length) ∧ c.size = es.length ∧ ∀ (j : Nat) p,es[j]? = some p → ∃ e,c[j]? = some e ∧ e.born = j ∧ Rep E p.1 e.key ∧ Rep E p.2 e.val
  | .iter m n seen => ∃ r rm,ri = some r ∧ E.D m ∧ E.φ m = some rm ∧ E.w.heap[r]? = some (.mapIter (some rm) n seen.toArray n)
structure SimH (φ : Nat → Option Nat) (G : Nat → Prop) (H : AHeap) (w : World) : Prop where
  glt : ∀ q,G q → q < w.heap.size
  inj : ∀ (i j : Nat) b c r,H[i]? = some b → H[j]? = some c → b.alive = true → c.alive = true → φ i = some r → φ j = some r → i = j
  dis : ∀ (i : Nat) b r,H[i]? = some b → b.alive = true → φ i = some r → ¬ G r
  blk : ∀ (i : Nat) b,H[i]? = some b → BlkRep (env φ G H w) (φ i) b
structure StepR (B : Nat) (φ : Nat → Option Nat) (H : AHeap) (w : World) (φ' : Nat → Option Nat) (H' : AHeap) (w' : World) : Prop where
  fix : ∀ i,i < B → φ' i = φ i
  dom : ∀ i,i < B → Dom H i → Dom H' i
  len : B ≤ H.length → B ≤ H'.length
  own : ∀ r,Owned φ' H' r → Owned φ H r ∨ w.heap.size ≤ r
  frame : ∀ r,r < w.heap.size → ¬ Owned φ H r → w'.heap[r]? = w.heap[r]?
  shape : ∀ (r : Nat) c e f,w.heap[r]? = some (.cells c e f) → ∃ c',w'.heap[r]? = some (.cells c' e f) ∧ c'.size = c.size
  size : w.heap.size ≤ w'.heap.size
  os : w'.os = w.os
  tape : w'.tape = w.tape
  output : w'.output = w.output
  drawn : w.drawn ≤ w'.drawn
theorem StepR.refl (B : Nat) (φ : Nat → Option Nat) (H : AHeap) (w : World) : StepR B φ H w φ H w :=
  ⟨fun _ _ => rfl,fun _ _ h => h,fun h => h,fun _ h => .inl h,fun _ _ _ => rfl,fun _ c _ _ h => ⟨c,h,rfl⟩,Nat.le_refl _,rfl,rfl,rfl,Nat.le_refl _⟩
theorem StepR.trans {B : Nat} {φ φ' φ'' : Nat → Option Nat} {H H' H'' : AHeap} {w w' w'' : World} (h : StepR B φ H w φ' H' w') (k : StepR B φ' H' w' φ'' H'' w'') : StepR B φ H w φ'' H'' w'' := by
  refine ⟨fun i hi => (k.fix i hi).trans (h.fix i hi),fun i hi hd => k.dom i hi (h.dom i hi hd),fun hl => k.len (h.len hl),fun r hr => ?_,fun r hr ho => ?_,fun r c e f hc => ?_,Nat.le_trans h.size k.size,k.os.trans h.os,k.tape.trans h.tape,k.output.trans h.output,Nat.le_trans h.drawn k.drawn⟩
  · rcases k.own r hr with h1 | h1
    · exact h.own r h1
    · exact .inr (Nat.le_trans h.size h1)
  · rw [k.frame r (Nat.lt_of_lt_of_le hr h.size) (fun ho' => ?_),h.frame r hr ho]
    rcases h.own r ho' with h1 | h1
    · exact ho h1
    · omega
  · obtain ⟨c',hc',hs⟩ := h.shape r c e f hc
    obtain ⟨c'',hc'',hs'⟩ := k.shape r c' e f hc'
    exact ⟨c'',hc'',hs'.trans hs⟩
theorem StepR.mono {B B' : Nat} {φ φ' : Nat → Option Nat} {H H' : AHeap} {w w' : World} (h : StepR B φ H w φ' H' w') (hB : B' ≤ B) (hl : B ≤ H.length) : StepR B' φ H w φ' H' w' :=
  ⟨fun i hi => h.fix i (by omega),fun i hi => h.dom i (by omega),fun _ => Nat.le_trans hB (h.len hl),h.own,h.frame,h.shape,h.size,h.os,h.tape,h.output,h.drawn⟩
theorem StepR.le {φ φ' : Nat → Option Nat} {H H' : AHeap} {w w' : World} {G : Nat → Prop} (h : StepR H.length φ H w φ' H' w') : (env φ G H w).Le (env φ' G H' w') :=
  ⟨fun i hi => h.fix i (Dom.lt hi),fun i hi => h.dom i (Dom.lt hi) hi,fun b hb => by
    rcases hb with hb | hb
    · exact .inl (.inl hb)
    · rcases h.own b hb with h1 | h1
      · exact .inl (.inr h1)
      · exact .inr h1,
   fun r hr hx => h.frame r hr (fun ho => hx (.inr ho)),h.shape⟩
theorem FrRep.mono {E E' : Env} (h : E.Le E') {fr : Fr} {tmps : Array Value} (hf : FrRep E fr tmps) : FrRep E' fr tmps := fun t => (hf t).mono h
end Go.Abs
