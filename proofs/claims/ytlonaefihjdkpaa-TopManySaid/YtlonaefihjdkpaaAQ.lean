/- Maps with arrays of integers as keys: what the model's operations do. -/
import Derived.Test.YtlonaefihjdkpaaA5
import Derived.MapKept
import Derived.Maps.RangeRun
namespace Go.Abs
open AVal
section
variable {P : Program} {w : World} {kt e : TypeId}
theorem intArr_spec (hi : intArr P kt e = true) : (∃ k,P.underlying e = some (.int k)) ∧ (∃ inf,P.info? e = some inf) ∧ P.cellsOf e = 1 := by
  simp only [intArr,Bool.and_eq_true,beq_iff_eq,Bool.not_eq_true'] at hi
  obtain ⟨⟨hk,hsz⟩,-⟩ := hi
  refine ⟨?_,?_,?_⟩
  · split at hk
    · rename_i k he; exact ⟨k,he⟩
    · cases hk
  · unfold tSize at hsz
    cases hq : P.info? e with
    | none => rw [hq] at hsz; cases hsz
    | some i => exact ⟨i,rfl⟩
  · unfold Program.cellsOf; unfold tSize at hsz; rw [hsz]; rfl
theorem equal_run {n : Nat} (ht : P.underlying kt = some (.array n e)) (hi : intArr P kt e = true) {E : Env} {cs ds : List AVal} {vs ws : Array Value} {l m : List Int} (hl : ints cs = some l) (hm : ints ds = some m) (hln : l.length = n) (hmn : m.length = n)
    (h1 : Rep E (.agg cs) (.agg vs)) (h2 : Rep E (.agg ds) (.agg ws)) : (Op.equal kt (.agg vs) (.agg ws)).run P E.w = .ok (l == m) E.w := by
  obtain ⟨⟨k,he⟩,⟨inf,hinf⟩,hc⟩ := intArr_spec hi
  cases h1 with
  | agg _ vs s1 r1 =>
  cases h2 with
  | agg _ ws s2 r2 =>
  show (Op.equalIn 10000 kt (.agg vs) (.agg ws)).run P E.w = _
  rw [run_equalIn_array E.w 9999 vs ws ht hinf,hc,eqItems_run he hl hm hln hmn s1 s2 r1 r2 9998 (List.range n) (fun i hi => List.mem_range.1 hi),all_range_eq hln hmn]
theorem checkKey_run (ht : P.underlying kt = some (.array 4 e)) (hi : intArr P kt e = true) (em : Bool) {vs : Array Value} (hv : vs.size = 4) : (Instr.checkKey em 10000 kt (.agg vs)).run P w = .ok () w := by
  obtain ⟨⟨k,he⟩,⟨inf,hinf⟩,hc⟩ := intArr_spec hi
  have hag : tAgg P e = some false := by simp [tAgg,he]
  have one : ∀ i,i < 4 → ∃ v,(part e vs i).run P w = .ok v w := fun i hi => by
    unfold part
    simp only [Sem.run_bind,run_isAgg' hag,Result.andThen_ok,Bool.false_eq_true,if_false,Array.getElem?_eq_getElem (show i < vs.size by omega)]
    exact ⟨_,rfl⟩
  have ck : ∀ n v,(Instr.checkKey em (n + 1) e v).run P w = .ok () w := fun n v => by
    simp [Instr.checkKey,run_underlying he]
  have sz : (sizeOf e).run P w = .ok 1 w := by rw [← hc]; exact run_sizeOf w hinf
  obtain ⟨v0,p0⟩ := one 0 (by omega)
  obtain ⟨v1,p1⟩ := one 1 (by omega)
  obtain ⟨v2,p2⟩ := one 2 (by omega)
  obtain ⟨v3,p3⟩ := one 3 (by omega)
  have gen : ∀ d,(Instr.checkKey em (d + 1 + 1) kt (.agg vs)).run P w = .ok () w := fun d => by
    rw [Instr.checkKey]
    simp [run_underlying ht,Std.Legacy.Range.forIn_eq_forIn_range',Std.Legacy.Range.size,List.range',sz,p0,p1,p2,p3,ck]
  exact gen 9998
theorem keyI_spec {n : Nat} {k : AVal} {l : List Int} (h : keyI n k = some l) : ∃ cs,k = .agg cs ∧ ints cs = some l ∧ l.length = n := by
  unfold keyI at h
  split at h
  case h_2 => cases h
  rename_i cs
  obtain ⟨m,hm,h⟩ := Option.bind_eq_some_iff.1 h
  split at h
  · cases h; rename_i hn; exact ⟨cs,rfl,hm,hn⟩
  · cases h
def FoundR (P : Program) (E : Env) (s : Sem (Option (Nat × Value))) : Option (Nat × AVal) → Prop
  | none => s.run P E.w = .ok none E.w
  | some (j,v) => ∃ rv,s.run P E.w = .ok (some (j,rv)) E.w ∧ Rep E v rv
theorem findAsking_run {n : Nat} (ht : P.underlying kt = some (.array n e)) (hi : intArr P kt e = true) {E : Env} {ka : AVal} {kv : Value} {l : List Int} (hl : keyI n ka = some l) (hk : Rep E ka kv) :
    ∀ (es : List (AVal × AVal)) (ms : List MapEntry) (i : Nat) {r : Option (Nat × AVal)},ms.length = es.length → (∀ (j : Nat) p,es[j]? = some p → ∃ q,ms[j]? = some q ∧ Rep E p.1 q.key ∧ Rep E p.2 q.val) → mfind n l es i = some r →
      FoundR P E (Instr.findAsking kt kv ms i) r
  | [],[],i,r,_,_,h => by
    simp only [mfind,Option.some.injEq] at h; subst h
    simp [FoundR,Instr.findAsking]
  | [],_ :: _,_,_,hl',_,_ => by simp at hl'
  | _ :: _,[],_,_,hl',_,_ => by simp at hl'
  | (k,v) :: es,q :: ms,i,r,hlen,hr,h => by
    obtain ⟨q',hq',h1,h2⟩ := hr 0 (k,v) rfl
    cases hq'
    simp only [mfind] at h
    split at h
    case h_2 => cases h
    rename_i m hm
    obtain ⟨cs,rfl,hcs,hln⟩ := keyI_spec hl
    obtain ⟨ds,rfl,hds,hmn⟩ := keyI_spec hm
    obtain ⟨vs,rfl,-,-⟩ := hk.inv_agg
    obtain ⟨ws,hws,-,-⟩ := Rep.inv_agg h1
    have heq := equal_run ht hi (E := E) hcs hds hln hmn hk (by rw [← hws]; exact h1)
    rw [← hws] at heq
    split at h
    · rename_i hlm
      simp only [Option.some.injEq] at h; subst h
      exact ⟨q.val,by simp [Instr.findAsking,heq,hlm],h2⟩
    · rename_i hlm
      have ih := findAsking_run ht hi hl hk es ms (i + 1) (by simpa using hlen) (fun j p hj => hr (j + 1) p (by simpa using hj)) h
      have step : (Instr.findAsking kt (.agg vs) (q :: ms) i).run P E.w = (Instr.findAsking kt (.agg vs) ms (i + 1)).run P E.w := by
        simp [Instr.findAsking,heq,hlm]
      unfold FoundR at ih ⊢
      rw [step]
      exact ih
theorem findKey_run {n : Nat} (ht : P.underlying kt = some (.array n e)) (hi : intArr P kt e = true) {E : Env} {ka : AVal} {kv : Value} {l : List Int} (hl : keyI n ka = some l) (hk : Rep E ka kv)
    {es : List (AVal × AVal)} {ms : List MapEntry} {r : Option (Nat × AVal)} (hlen : ms.length = es.length) (hr : ∀ (j : Nat) p,es[j]? = some p → ∃ q,ms[j]? = some q ∧ Rep E p.1 q.key ∧ Rep E p.2 q.val) (h : mfind n l es 0 = some r) :
      FoundR P E (Instr.findKey kt kv ms) r := by
  have e : (Instr.findKey kt kv ms).run P E.w = (Instr.findAsking kt kv ms 0).run P E.w := by
    cases ms with
    | nil => simp [Instr.findKey,run_underlying ht,Instr.findNow,Instr.findAsking]
    | cons q ms => simp [Instr.findKey,run_underlying ht,Instr.findNow,Instr.sameNow]
  have := findAsking_run ht hi hl hk es ms 0 hlen hr h
  unfold FoundR at this ⊢
  rw [e]
  exact this
end
section
variable {P : Program} {B : Nat} {G : Nat → Prop} {φ : Nat → Option Nat} {H : AHeap} {w : World}
def setO (w : World) (r : Nat) (o : Obj) : World := { w with heap := w.heap.setIfInBounds r o }
theorem nx_setO (hs : SimH φ G H w) {i r : Nat} {b b' : Blk} {o o' : Obj} (hi : H[i]? = some b) (ha : b.alive = true) (ha' : b'.alive = true) (hφ : φ i = some r) (hw : w.heap[r]? = some o) (hno : ∀ c e f,o ≠ .cells c e f)
    (hr : ∀ E : Env,(env φ G H w).Le E → E.w = setO w r o' → BlkRep E (some r) b') : Nx B G φ H w φ (H.set i b') (setO w r o') := by
  have hilt : i < H.length := (List.getElem?_eq_some_iff.1 hi).1
  have hrlt : r < w.heap.size := (Array.getElem?_eq_some_iff.1 hw).1
  have hother : ∀ q,q ≠ r → (setO w r o').heap[q]? = w.heap[q]? := fun q hq => by simp [setO,Ne.symm hq]
  have hget : ∀ j,(H.set i b')[j]? = if j = i then some b' else H[j]? := fun j => by
    rw [List.getElem?_set]
    by_cases h : i = j
    · subst h; simp [hilt]
    · simp [h,Ne.symm h]
  have hdom : ∀ j,Dom H j ↔ Dom (H.set i b') j := fun j => by
    unfold Dom; rw [hget j]
    by_cases h : j = i
    · subst h; simp [hi,alive_ne_hole ha,alive_ne_hole ha']
    · simp [h]
  have hown : ∀ q,Owned φ (H.set i b') q ↔ Owned φ H q := fun q => by
    constructor
    · rintro ⟨j,c,hj,hac,hq⟩
      rw [hget j] at hj
      by_cases h : j = i
      · subst h; exact ⟨j,_,hi,ha,hq⟩
      · rw [if_neg h] at hj; exact ⟨j,c,hj,hac,hq⟩
    · rintro ⟨j,c,hj,hac,hq⟩
      by_cases h : j = i
      · subst h; exact ⟨j,b',by rw [hget]; simp,ha',hq⟩
      · exact ⟨j,c,by rw [hget,if_neg h]; exact hj,hac,hq⟩
  have hri : Owned φ H r := ⟨i,_,hi,ha,hφ⟩
  have hle : (env φ G H w).Le (env φ G (H.set i b') (setO w r o')) := by
    refine ⟨fun _ _ => rfl,fun j hj => (hdom j).1 hj,fun q hq => ?_,fun q _ hx => ?_,fun q d e' f hd => ?_⟩
    · rcases hq with hq | hq
      · exact .inl (.inl hq)
      · exact .inl (.inr ((hown q).1 hq))
    · exact hother q (fun h => hx (.inr (by rw [h]; exact hri)))
    · have hd' : w.heap[q]? = some (.cells d e' f) := hd
      by_cases h : q = r
      · subst h; rw [hw] at hd'; cases hd'; exact absurd rfl (hno _ _ _)
      · exact ⟨d,by show (setO w r o').heap[q]? = _; rw [hother q h]; exact hd',rfl⟩
  refine ⟨⟨fun q hq => by show q < (w.heap.setIfInBounds r _).size; simpa using hs.glt q hq,fun j k c d q hj hk hac hb hjq hkq => ?_,fun j c q hj hac hq => ?_,fun j c hj => ?_⟩,hle,⟨fun _ _ => rfl,fun j _ hj => (hdom j).1 hj,fun h => by simpa using h,fun q hq => .inl ((hown q).1 hq),fun q hq hx => ?_,hle.shape,?_,rfl,rfl,rfl,Nat.le_refl _⟩⟩
  · rw [hget] at hj hk
    by_cases h1 : j = i
    · subst h1
      by_cases h2 : k = j
      · exact h2.symm
      · rw [if_neg h2] at hk; exact hs.inj j k _ d q hi hk ha hb hjq hkq
    · rw [if_neg h1] at hj
      by_cases h2 : k = i
      · subst h2; exact hs.inj j k c _ q hj hi hac ha hjq hkq
      · rw [if_neg h2] at hk; exact hs.inj j k c d q hj hk hac hb hjq hkq
  · rw [hget] at hj
    by_cases h1 : j = i
    · subst h1; exact hs.dis j _ q hi ha hq
    · rw [if_neg h1] at hj; exact hs.dis j c q hj hac hq
  · rw [hget] at hj
    by_cases h1 : j = i
    · subst h1
      rw [if_pos rfl] at hj
      cases hj
      rw [hφ]
      exact hr _ hle rfl
    · rw [if_neg h1] at hj
      by_cases hac : c.alive = true
      · refine (hs.blk j c hj).mono hle (fun q hq => hother q (fun h => ?_))
        subst h
        exact h1 (hs.inj j i c _ q hj hi hac ha hq hφ)
      · cases c <;> first | trivial | exact absurd rfl hac
  · exact hother q (fun h => hx (by rw [h]; exact hri))
  · show w.heap.size ≤ (w.heap.setIfInBounds r _).size; simp
theorem map_at (hs : SimH φ G H w) {i : Nat} {es : List (AVal × AVal)} (hi : H[i]? = some (.map es)) {rv : Value} (hr : Rep (env φ G H w) (.mp i) rv) :
    ∃ (r : Nat) (c : Array MapEntry),rv = .map (some r) ∧ φ i = some r ∧ w.heap[r]? = some (.map c es.length) ∧ c.size = es.length ∧ ∀ (j : Nat) p,es[j]? = some p → ∃ q,c[j]? = some q ∧ q.born = j ∧ Rep (env φ G H w) p.1 q.key ∧ Rep (env φ G H w) p.2 q.val := by
  obtain ⟨r,rfl,-,hφ⟩ := hr.inv_mp
  have hφ : φ i = some r := hφ
  obtain ⟨r',c,he,hw,hz,hc⟩ := hs.blk i _ hi
  rw [hφ] at he
  cases he
  exact ⟨r,c,rfl,hφ,hw,hz,hc⟩
theorem mlen_sound (hs : SimH φ G H w) {t k e : TypeId} (ht : P.underlying t = some (.map k e)) {ts : Array TypeId} (hts : ts[0]? = some t) {ty : TypeId} {a : AVal} {ra : Value} {p : Prop} {v : AVal} (h : mlenA a H = some (p,v)) (h1 : Rep (env φ G H w) a ra) :
    ∃ rv,(Builtin.len_ ts ty #[ra]).run P w = .ok rv w ∧ Rep (env φ G H w) v rv := by
  unfold mlenA at h
  split at h
  case h_2 => cases h
  split at h
  case h_2 => cases h
  rename_i es hi
  simp only [Option.some.injEq,Prod.mk.injEq] at h
  obtain ⟨_,rfl⟩ := h
  obtain ⟨r,c,rfl,hφ,hw,hz,hc⟩ := map_at hs hi h1
  exact ⟨_,by simp [Builtin.len_,hts,run_underlying ht,MapKept.run_getObj_map hw,goInt,hz],.val _⟩
theorem mapArr_spec {t : TypeId} (h : mapArr P t = true) : ∃ kt et e,P.underlying t = some (.map kt et) ∧ P.underlying kt = some (.array 4 e) ∧ intArr P kt e = true := by
  unfold mapArr at h
  split at h
  case h_2 => cases h
  rename_i kt et ht
  split at h
  case h_2 => cases h
  rename_i n e hk
  rw [Bool.and_eq_true,beq_iff_eq] at h
  obtain ⟨rfl,h⟩ := h
  exact ⟨kt,et,e,ht,hk,h⟩
theorem ints_len : ∀ {cs : List AVal} {l : List Int},ints cs = some l → cs.length = l.length := by
  intro cs
  induction cs with
  | nil => intro l h; simp only [ints,Option.some.injEq] at h; subst h; rfl
  | cons a cs ih =>
    intro l h
    unfold ints at h
    split at h
    · rename_i heq; cases heq
    · rename_i heq; cases heq
      obtain ⟨m,hm,rfl⟩ := Option.map_eq_some_iff.1 h
      simp [ih hm]
    · cases h
theorem mget_sound (hs : SimH φ G H w) {t : TypeId} (hm : mapArr P t = true) {z : AVal} (hz : mapZero P t = some z) {a k : AVal} {ra rk : Value} {p : Prop} {v : AVal} (h : mgetA 4 z a k H = some (p,v)) (h1 : Rep (env φ G H w) a ra) (h2 : Rep (env φ G H w) k rk)
    (hzr : ∀ (i : TypeInfo) (zv : Value),i.zero = some zv → Rep (env φ G H w) (ofValue zv) zv) :
    ∃ r1 r2,((Instr.lookup t ra rk true).run P w = .ok (.tuple #[r1,r2]) w ∧ (Instr.lookup t ra rk false).run P w = .ok r1 w) ∧ Rep (env φ G H w) v (.tuple #[r1,r2]) := by
  obtain ⟨kt,et,e,ht,hk,hi⟩ := mapArr_spec hm
  unfold mgetA at h
  split at h
  case h_2 => cases h
  split at h
  case h_2 => cases h
  rename_i es hie
  split at h
  case h_2 => cases h
  rename_i l hl
  obtain ⟨r,c,rfl,hφ,hw,hsz,hc⟩ := map_at hs hie h1
  obtain ⟨cs,rfl,hcs,hln⟩ := keyI_spec hl
  obtain ⟨vs,rfl,hvs,-⟩ := h2.inv_agg
  have hv4 : vs.size = 4 := by
    rw [hvs]
    rw [ints_len hcs,hln]
  have hck := checkKey_run (P := P) (w := w) hk hi c.isEmpty hv4
  have hfk := fun {q} => findKey_run (P := P) hk hi (E := env φ G H w) hl h2 (es := es) (ms := c.toList) (r := q) (by simp [hsz]) (fun j p hj => by
    obtain ⟨q,hq,-,h3,h4⟩ := hc j p hj
    exact ⟨q,by simpa using hq,h3,h4⟩)
  unfold mapZero at hz
  rw [ht] at hz
  obtain ⟨zv,hzv,rfl⟩ := Option.map_eq_some_iff.1 hz
  obtain ⟨inf,hinf,hzi⟩ := Option.bind_eq_some_iff.1 hzv
  split at h
  · rename_i j v' hf
    simp only [Option.some.injEq,Prod.mk.injEq] at h
    obtain ⟨_,rfl⟩ := h
    obtain ⟨rv,hrun,hrep⟩ := hfk hf
    have hrun : (Instr.findKey kt (.agg vs) c.toList).run P w = .ok (some (j,rv)) w := hrun
    exact ⟨rv,.bool true,⟨by simp [Instr.lookup,run_underlying ht,MapKept.run_getObj_map hw,hck,hrun],by simp [Instr.lookup,run_underlying ht,MapKept.run_getObj_map hw,hck,hrun]⟩,.tup _ _ rfl fun j u hu => by
      rcases j with _ | _ | j
      · simp at hu; subst hu; exact hrep
      · simp at hu; subst hu; exact .val _
      · simp at hu⟩
  · rename_i hf
    simp only [Option.some.injEq,Prod.mk.injEq] at h
    obtain ⟨_,rfl⟩ := h
    have hrun : (Instr.findKey kt (.agg vs) c.toList).run P w = .ok none w := hfk hf
    have hzr' : (zeroValue et).run P w = .ok zv w := by
      simp [zeroValue,typeInfo,hinf,hzi]
    exact ⟨zv,.bool false,⟨by simp [Instr.lookup,run_underlying ht,MapKept.run_getObj_map hw,hck,hrun,hzr'],by simp [Instr.lookup,run_underlying ht,MapKept.run_getObj_map hw,hck,hrun,hzr']⟩,.tup _ _ rfl fun j u hu => by
      rcases j with _ | _ | j
      · simp at hu; subst hu; exact hzr inf zv hzi
      · simp at hu; subst hu; exact .val _
      · simp at hu⟩
  · cases h
theorem mval_sound (hs : SimH φ G H w) {t : TypeId} (hm : mapArr P t = true) {z : AVal} (hz : mapZero P t = some z) {a k : AVal} {ra rk : Value} {p : Prop} {v : AVal} (h : mvalA 4 z a k H = some (p,v)) (h1 : Rep (env φ G H w) a ra) (h2 : Rep (env φ G H w) k rk)
    (hzr : ∀ (i : TypeInfo) (zv : Value),i.zero = some zv → Rep (env φ G H w) (ofValue zv) zv) :
    ∃ rv,(Instr.lookup t ra rk false).run P w = .ok rv w ∧ Rep (env φ G H w) v rv := by
  unfold mvalA at h
  split at h
  case h_2 => cases h
  rename_i q x y hq
  cases h
  obtain ⟨r1,r2,⟨-,h3⟩,h4⟩ := mget_sound hs hm hz hq h1 h2 hzr
  refine ⟨r1,h3,?_⟩
  cases h4 with
  | tup _ _ _ h5 => exact h5 0 _ rfl
theorem find_born {c : Array MapEntry} (hb : ∀ (j : Nat) q,c[j]? = some q → q.born = j) {s : Nat} {q : MapEntry} (hq : c[s]? = some q) : c.find? (fun e => e.born == s) = some q := by
  obtain ⟨hs,he⟩ := Array.getElem?_eq_some_iff.1 hq
  rw [Array.find?_eq_some_iff_getElem]
  refine ⟨by rw [hb s q hq]; simp,s,hs,he,fun j hj => ?_⟩
  rw [hb j c[j] (by simp)]
  simp; omega
theorem mentry_sound (hs : SimH φ G H w) {a : AVal} {ra : Value} {p : Prop} {v : AVal} (h : mentryA a H = some (p,v)) (hp : p) (h1 : Rep (env φ G H w) a ra) : ∃ rv,(Instr.entry ra).run P w = .ok rv w ∧ Rep (env φ G H w) v rv := by
  unfold mentryA at h
  split at h
  case h_2 => cases h
  rename_i i off
  split at h
  case h_2 => cases h
  rename_i m n seen hi
  split at h
  case h_2 => cases h
  rename_i es hm
  split at h
  case h_2 => cases h
  rename_i s hsn
  split at h
  case h_2 => cases h
  rename_i pr hpr
  simp only [Option.some.injEq,Prod.mk.injEq] at h
  obtain ⟨rfl,rfl⟩ := h
  obtain ⟨rfl,hlen⟩ := hp
  obtain ⟨r,rfl,-,hφ⟩ := h1.inv_ptr
  have hφ : φ i = some r := hφ
  obtain ⟨r',rm,he,hD,hφm,hw⟩ := hs.blk i _ hi
  rw [hφ] at he
  cases he
  have hφm : φ m = some rm := hφm
  obtain ⟨rm',c,he,hwm,hz,hc⟩ := hs.blk m _ hm
  rw [hφm] at he
  cases he
  have hw : w.heap[r]? = some (.mapIter (some rm) n seen.toArray n) := hw
  have hwm : w.heap[rm]? = some (.map c es.length) := hwm
  obtain ⟨q,hq,hqb,h3,h4⟩ := hc s pr hpr
  have hb : ∀ (j : Nat) q,c[j]? = some q → q.born = j := fun j q hj => by
    have hjl : j < es.length := by have := (Array.getElem?_eq_some_iff.1 hj).1; omega
    obtain ⟨q',hq',hb',-⟩ := hc j es[j] (by simp [hjl])
    rw [hj] at hq'; cases hq'; exact hb'
  have hfind := find_born hb hq
  have hback : seen.toArray.back? = some s := by simpa using hsn
  have g1 : (getObj r).run P w = .ok (.mapIter (some rm) n seen.toArray n) w := by simp [getObj,Sem.run,hw]
  refine ⟨.tuple #[q.key,q.val],?_,.tup _ _ rfl fun j u hu => ?_⟩
  · simp only [Instr.entry,Sem.run_bind,g1,Result.andThen_ok,hback,MapKept.run_getObj_map hwm,hlen,bne_self_eq_false,Bool.false_eq_true,if_false,hfind]
    simp
  · rcases j with _ | _ | j
    · simp at hu; subst hu; exact h3
    · simp at hu; subst hu; exact h4
    · simp at hu
theorem mset_sound (hs : SimH φ G H w) {t : TypeId} (hm : mapArr P t = true) {a k x : AVal} {ra rk rx : Value} {p : Prop} {v : AVal} {H' : AHeap} (h : msetA 4 a k x H = some (p,v,H')) (h1 : Rep (env φ G H w) a ra) (h2 : Rep (env φ G H w) k rk) (h3 : Rep (env φ G H w) x rx) :
    v = .any ∧ ∃ w',(Instr.mapUpdate t ra rk rx).run P w = .ok () w' ∧ Nx B G φ H w φ H' w' := by
  obtain ⟨kt,et,e,ht,hk,hi⟩ := mapArr_spec hm
  unfold msetA at h
  split at h
  case h_2 => cases h
  rename_i i
  split at h
  case h_2 => cases h
  rename_i es hie
  split at h
  case h_2 => cases h
  rename_i l hl
  split at h
  case h_2 => cases h
  rename_i hf
  simp only [Option.some.injEq,Prod.mk.injEq] at h
  obtain ⟨_,rfl,rfl⟩ := h
  obtain ⟨r,c,rfl,hφ,hw,hsz,hc⟩ := map_at hs hie h1
  obtain ⟨cs,rfl,hcs,hln⟩ := keyI_spec hl
  obtain ⟨vs,rfl,hvs,-⟩ := h2.inv_agg
  have hv4 : vs.size = 4 := by rw [hvs,ints_len hcs,hln]
  have hck := checkKey_run (P := P) (w := w) hk hi false hv4
  have hrun : (Instr.findKey kt (.agg vs) c.toList).run P w = .ok none w := findKey_run (P := P) hk hi (E := env φ G H w) hl h2 (es := es) (ms := c.toList) (r := none) (by simp [hsz]) (fun j p hj => by
    obtain ⟨q,hq,-,h3,h4⟩ := hc j p hj
    exact ⟨q,by simpa using hq,h3,h4⟩) hf
  refine ⟨rfl,setO w r (.map (c.push { key := .agg vs,val := rx,born := es.length }) (es.length + 1)),?_,nx_setO hs hie rfl rfl hφ hw (fun _ _ _ h => by cases h) fun E hle hE => ?_⟩
  · simp [Instr.mapUpdate,run_underlying ht,MapKept.run_getObj_map hw,hck,hrun,MapKept.run_setObj_map _ hw,setO]
  · have hrlt : r < w.heap.size := (Array.getElem?_eq_some_iff.1 hw).1
    refine ⟨r,c.push { key := .agg vs,val := rx,born := es.length },rfl,by rw [hE,List.length_append,List.length_singleton]; simp [setO,hrlt],by simp [hsz],fun j p hj => ?_⟩
    rw [List.getElem?_append] at hj
    split at hj
    · rename_i hjl
      obtain ⟨q,hq,hb,h4,h5⟩ := hc j p hj
      refine ⟨q,?_,hb,h4.mono hle,h5.mono hle⟩
      rw [Array.getElem?_push,if_neg (by omega)]; exact hq
    · rename_i hjl
      have hj0 : j = es.length := by
        by_cases h0 : j - es.length = 0
        · omega
        · rw [List.getElem?_eq_none (by simp; omega)] at hj; cases hj
      subst hj0
      simp at hj
      subst hj
      exact ⟨{ key := .agg vs,val := rx,born := es.length },by rw [Array.getElem?_push,if_pos hsz.symm],rfl,h2.mono hle,h3.mono hle⟩
theorem mkmap_sound (hs : SimH φ G H w) {t k e : TypeId} (ht : P.underlying t = some (.map k e)) {n : Nat} {pl : AHeap → Blk → AHeap} (hpl : ∀ b,NewAt H n b (pl H b)) (hB : B ≤ n) :
    ∃ rv w' φ',(Instr.makeMap t none).run P w = .ok rv w' ∧ Nx B G φ H w φ' (pl H (.map [])) w' ∧ Rep (env φ' G (pl H (.map [])) w') (.mp n) rv := by
  have hn := nx_alloc (B := B) hs (hpl (.map [])) hB (o := .map #[] 0) fun E _ hE => ⟨w.heap.size,#[],rfl,by rw [hE]; show (w.heap.push _)[w.heap.size]? = _; simp,rfl,fun j p hj => by simp at hj⟩
  refine ⟨.map (some w.heap.size),w.alloc (.map #[] 0),up φ n (some w.heap.size),by rfl,hn,.mp n _ ⟨.map [],by rw [(hpl _).get]; simp,by simp⟩ (up_same _ _ _)⟩
theorem mrange_sound (hs : SimH φ G H w) {t k e : TypeId} (ht : P.underlying t = some (.map k e)) {n : Nat} {pl : AHeap → Blk → AHeap} (hpl : ∀ b,NewAt H n b (pl H b)) (hB : B ≤ n) {a : AVal} {ra : Value} {p : Prop} {v : AVal} {H' : AHeap} (h : mrangeA a H n pl = some (p,v,H')) (h1 : Rep (env φ G H w) a ra) :
    ∃ rv w' φ',(Instr.range t ra).run P w = .ok rv w' ∧ Nx B G φ H w φ' H' w' ∧ Rep (env φ' G H' w') v rv := by
  unfold mrangeA at h
  split at h
  case h_2 => cases h
  rename_i i
  split at h
  case h_2 => cases h
  rename_i es hie
  simp only [Option.some.injEq,Prod.mk.injEq] at h
  obtain ⟨_,rfl,rfl⟩ := h
  obtain ⟨r,c,rfl,hφ,hw,hsz,hc⟩ := map_at hs hie h1
  have hdi : Dom H i := ⟨_,hie,by simp⟩
  have hn := nx_alloc (B := B) hs (hpl (.iter i es.length [])) hB (o := .mapIter (some r) es.length #[] es.length) fun E hle hE => ⟨w.heap.size,r,rfl,hle.dom i hdi,by rw [hle.fix i hdi]; exact hφ,by rw [hE]; show (w.heap.push _)[w.heap.size]? = _; simp⟩
  refine ⟨.pointer (some ⟨w.heap.size,0,none⟩),w.alloc (.mapIter (some r) es.length #[] es.length),up φ n (some w.heap.size),?_,hn,.ptr n 0 _ ⟨.iter i es.length [],by rw [(hpl _).get]; simp,by simp⟩ (up_same _ _ _)⟩
  simp only [Instr.range,Sem.run_bind,run_underlying ht,Result.andThen_ok,MapKept.run_getObj_map hw]
  rfl
theorem mnext_sound (hs : SimH φ G H w) {ty : TypeId} {a : AVal} {ra : Value} {K : AVal → AHeap → Prop} (h : mnextA a H K) (h1 : Rep (env φ G H w) a ra) :
    ∃ rv w',(Instr.next ra false ty).run P w = .ok rv w' ∧ ∃ v H',K v H' ∧ Nx B G φ H w φ H' w' ∧ Rep (env φ G H' w') v rv := by
  unfold mnextA at h
  split at h
  case h_2 => exact h.elim
  rename_i i off
  split at h
  case h_2 => exact h.elim
  rename_i m n seen hi
  split at h
  case h_2 => exact h.elim
  rename_i es hm
  obtain ⟨rfl,hlen,hover,hgo⟩ := h
  obtain ⟨r,rfl,-,hφ⟩ := h1.inv_ptr
  have hφ : φ i = some r := hφ
  obtain ⟨r',rm,he,hD,hφm,hw⟩ := hs.blk i _ hi
  rw [hφ] at he
  cases he
  have hφm : φ m = some rm := hφm
  obtain ⟨rm',c,he,hwm,hz,hc⟩ := hs.blk m _ hm
  rw [hφm] at he
  cases he
  have hw : w.heap[r]? = some (.mapIter (some rm) n seen.toArray n) := hw
  have hwm : w.heap[rm]? = some (.map c es.length) := hwm
  have hb : ∀ (j : Nat) q,c[j]? = some q → q.born = j := fun j q hj => by
    have hjl : j < es.length := by have := (Array.getElem?_eq_some_iff.1 hj).1; omega
    obtain ⟨q',hq',hb',-⟩ := hc j es[j] (by simp [hjl])
    rw [hj] at hq'; cases hq'; exact hb'
  have hold : ∀ x ∈ c.toList,x.born < n := fun x hx => by
    obtain ⟨j,hj⟩ := List.getElem?_of_mem hx
    rw [Array.getElem?_toList] at hj
    have := (Array.getElem?_eq_some_iff.1 hj).1
    rw [hb j x hj]; omega
  rcases run_next_at (P := P) w ty r rm n n seen.toArray c es.length hw hwm hold (Nat.le_refl _) with ⟨h0,hr⟩ | ⟨e,he,w1,hw1,hr⟩
  · refine ⟨_,w,hr,_,H,hover (fun k hk => ?_),.refl hs,.tup _ _ rfl fun j u hu => ?_⟩
    · have hkc : k < c.size := by omega
      by_cases hs' : k ∈ seen
      · exact hs'
      · exfalso
        have : c[k] ∈ leftOf c seen.toArray := by
          unfold leftOf
          rw [Array.mem_filter]
          refine ⟨by simp,?_⟩
          rw [hb k c[k] (by simp [hkc])]
          simpa using hs'
        have := Array.size_pos_of_mem this
        omega
    · rcases j with _ | j
      · simp at hu; subst hu; exact .val _
      · simp at hu
  · have hec : e ∈ c ∧ seen.toArray.contains e.born = false := by
      rw [Array.mem_toList_iff] at he
      unfold leftOf at he
      rw [Array.mem_filter] at he
      exact ⟨he.1,by simpa using he.2⟩
    obtain ⟨j,hj⟩ := Array.getElem?_of_mem hec.1
    have hbj := hb j e hj
    have hjl : j < es.length := by have := (Array.getElem?_eq_some_iff.1 hj).1; omega
    obtain ⟨q',hq',-,h3,h4⟩ := hc j es[j] (by simp [hjl])
    rw [hj] at hq'; cases hq'
    have hns : j ∉ seen := by
      have := hec.2
      rw [hbj] at this
      simpa using this
    have hn1 : Nx B G φ H w φ H w1 := by
      rcases hw1 with rfl | rfl
      · exact .refl hs
      · exact nx_drew hs
    have hw' : w1.heap[r]? = some (.mapIter (some rm) n seen.toArray n) := by rcases hw1 with rfl | rfl <;> exact hw
    have hrlt : r < w1.heap.size := (Array.getElem?_eq_some_iff.1 hw').1
    have hn2 := nx_setO (B := B) (b' := .iter m n (seen ++ [j])) (o' := .mapIter (some rm) n (seen.toArray.push e.born) es.length) hn1.sim hi rfl rfl hφ hw' (fun _ _ _ h => by cases h) fun E hle hE => by
      refine ⟨r,rm,rfl,hle.dom m ⟨_,hm,by simp⟩,by rw [hle.fix m ⟨_,hm,by simp⟩]; exact hφm,?_⟩
      rw [hE,hbj,hlen]
      simp [setO,hrlt]
    refine ⟨_,_,hr,_,_,hgo j es[j] (by simp [hjl]) hns,hn1.trans hn2,?_⟩
    have hle := (hn1.trans hn2).le
    refine .tup _ _ rfl fun k u hu => ?_
    rcases k with _ | _ | _ | k
    · simp at hu; subst hu; exact .val _
    · simp at hu; subst hu; exact h3.mono hle
    · simp at hu; subst hu; exact h4.mono hle
    · simp at hu
end
end Go.Abs
