/- The quiet operations: the model's operations answer what the abstract ones do. -/
import Derived.Test.YtlonaefihjdkpaaA2
import Derived.IntWalk
namespace Go.Abs
open AVal
theorem run_sizeOf' {P : Program} {t : TypeId} {k : Nat} (h : tSize P t = some k) (w : World) : (sizeOf t).run P w = .ok k w := by
  unfold tSize at h
  cases hi : P.info? t with
  | none => simp [hi] at h
  | some i => simp [hi] at h; simp [sizeOf,typeInfo,hi,h]
theorem run_isAgg' {P : Program} {t : TypeId} {b : Bool} (h : tAgg P t = some b) (w : World) : (isAgg t).run P w = .ok b w := by
  unfold tAgg at h
  cases hi : P.underlying t with
  | none => simp [hi] at h
  | some d =>
    simp [hi] at h
    unfold isAgg
    simp only [Sem.run_bind,run_underlying hi,Result.andThen_ok]
    cases d <;> simp at h <;> simp [← h]
/-! ### Inversions -/
section inv
variable {E : Env} {rv : Value}
theorem Rep.inv_val {v : Value} (h : Rep E (.val v) rv) : rv = v := by cases h; rfl
theorem Rep.inv_agg {cs : List AVal} (h : Rep E (.agg cs) rv) : ∃ vs : Array Value,rv = .agg vs ∧ vs.size = cs.length ∧ ∀ (j : Nat) u,cs[j]? = some u → Rep E u (vs.getD j undef) := by
  cases h with | agg _ vs h r => exact ⟨vs,rfl,h,r⟩
theorem Rep.inv_tup {cs : List AVal} (h : Rep E (.tup cs) rv) : ∃ vs : Array Value,rv = .tuple vs ∧ vs.size = cs.length ∧ ∀ (j : Nat) u,cs[j]? = some u → Rep E u (vs.getD j undef) := by
  cases h with | tup _ vs h r => exact ⟨vs,rfl,h,r⟩
theorem Rep.inv_ptr {i off : Nat} (h : Rep E (.ptr i off) rv) : ∃ r,rv = .pointer (some ⟨r,off,none⟩) ∧ E.D i ∧ E.φ i = some r := by
  cases h with | ptr _ _ r hi h => exact ⟨r,rfl,hi,h⟩
theorem Rep.inv_rp {cs : List AVal} (h : Rep E (.rp cs) rv) : ∃ b off,rv = .pointer (some ⟨b,off,none⟩) ∧ cs ≠ [] ∧ ¬ E.X b ∧ ∀ (j : Nat) u,cs[j]? = some u → ∃ x,E.w.cell? ⟨b,off + j,none⟩ = some x ∧ Rep E u x := by
  cases h with | rp _ b off f hn hb hc hr => exact ⟨b,off,rfl,hn,hb,fun j u hu => ⟨f j,hc j u hu,hr j u hu⟩⟩
theorem Rep.mk_rp {cs : List AVal} {b off : Nat} (hn : cs ≠ []) (hb : ¬ E.X b) (h : ∀ (j : Nat) u,cs[j]? = some u → ∃ x,E.w.cell? ⟨b,off + j,none⟩ = some x ∧ Rep E u x) : Rep E (.rp cs) (.pointer (some ⟨b,off,none⟩)) :=
  .rp cs b off (fun j => (E.w.cell? ⟨b,off + j,none⟩).getD undef) hn hb
    (fun j u hu => by obtain ⟨x,hx,_⟩ := h j u hu; rw [hx]; rfl) (fun j u hu => by obtain ⟨x,hx,hr⟩ := h j u hu; rw [hx]; exact hr)
theorem Rep.inv_sl {nn t : Bool} {xs : List AVal} (h : Rep E (.sl nn t xs) rv) :
    (nn = false ∧ xs = [] ∧ rv = .slice none 0 0) ∨ (∃ b off cap k,rv = .slice (some ⟨b,off,none⟩) xs.length cap ∧ 0 < k ∧ (xs ≠ [] → ¬ E.X b) ∧ xs.length ≤ cap ∧ (t = true → cap = xs.length) ∧
      (∀ (i : Nat) (e : AVal),xs[i]? = some e → e.cells.length = k) ∧
      (∀ (i : Nat) (e : AVal),xs[i]? = some e → ∀ (j : Nat) u,e.cells[j]? = some u → ∃ x,E.w.cell? ⟨b,off + i * k + j,none⟩ = some x ∧ Rep E u x)) ∨ (xs = [] ∧ t = false ∧ ∃ a : Addr,rv = .slice (some a) 0 0) := by
  cases h with
  | slnil t => exact .inl ⟨rfl,rfl,rfl⟩
  | sl0 nn a => exact .inr (.inr ⟨rfl,rfl,a,rfl⟩)
  | sl _ _ _ b off cap k f h0 hb hl ht hk hc hr => exact .inr <| .inl ⟨b,off,cap,k,rfl,h0,hb,hl,ht,hk,fun i e he j u hu => ⟨f i j,hc i e he j u hu,hr i e he j u hu⟩⟩
theorem Rep.mk_sl {nn t : Bool} {xs : List AVal} {b off n cap k : Nat} (hn : n = xs.length) (h0 : 0 < k) (hb : xs ≠ [] → ¬ E.X b) (hl : xs.length ≤ cap) (ht : t = true → cap = xs.length)
    (hk : ∀ (i : Nat) (e : AVal),xs[i]? = some e → e.cells.length = k)
    (h : ∀ (i : Nat) (e : AVal),xs[i]? = some e → ∀ (j : Nat) u,e.cells[j]? = some u → ∃ x,E.w.cell? ⟨b,off + i * k + j,none⟩ = some x ∧ Rep E u x) : Rep E (.sl nn t xs) (.slice (some ⟨b,off,none⟩) n cap) := by
  subst hn
  exact .sl nn t xs b off cap k (fun i j => (E.w.cell? ⟨b,off + i * k + j,none⟩).getD undef) h0 hb hl ht hk
    (fun i e he j u hu => by obtain ⟨x,hx,_⟩ := h i e he j u hu; rw [hx]; rfl) (fun i e he j u hu => by obtain ⟨x,hx,hr⟩ := h i e he j u hu; rw [hx]; exact hr)
theorem Rep.mk_sl_nil {nn t : Bool} {b off cap : Nat} (ht : t = true → cap = 0) : Rep E (.sl nn t []) (.slice (some ⟨b,off,none⟩) 0 cap) :=
  Rep.mk_sl (k := 1) rfl (by omega) (fun h => absurd rfl h) (by simp) (by simpa using ht) (fun i e he => by simp at he) (fun i e he => by simp at he)
theorem Rep.inv_own {i off len lb k : Nat} (h : Rep E (.own i off len lb k) rv) : E.D i ∧
    ((E.φ i = none ∧ off = 0 ∧ len = 0 ∧ lb = 0 ∧ ∃ a : Option (Nat × Nat),rv = .slice (a.map fun p => ⟨p.1,p.2,none⟩) 0 0) ∨
     ∃ r cap c e,E.φ i = some r ∧ rv = .slice (some ⟨r,off,none⟩) len cap ∧ E.w.heap[r]? = some (.cells c e (0,0)) ∧ off + cap * k ≤ c.size ∧ lb ≤ cap ∧ len ≤ cap) := by
  cases h with
  | ownnil _ _ a hi h => exact ⟨hi,.inl ⟨h,rfl,rfl,rfl,a,rfl⟩⟩
  | own _ _ _ _ _ r cap c e hi h hc hs hlb hl => exact ⟨hi,.inr ⟨r,cap,c,e,h,rfl,hc,hs,hlb,hl⟩⟩
theorem Rep.inv_fn {f : Fn} {a b : List AVal} (h : Rep E (.fn f a b) rv) : ∃ fs cs : Array Value,rv = .func f fs cs ∧ fs.size = a.length ∧ cs.size = b.length ∧
    (∀ (j : Nat) u,a[j]? = some u → Rep E u (fs.getD j undef)) ∧ (∀ (j : Nat) u,b[j]? = some u → Rep E u (cs.getD j undef)) := by
  cases h with | fn _ _ _ fs cs h1 h2 r1 r2 => exact ⟨fs,cs,rfl,h1,h2,r1,r2⟩
theorem Rep.inv_mp {i : Nat} (h : Rep E (.mp i) rv) : ∃ r,rv = .map (some r) ∧ E.D i ∧ E.φ i = some r := by
  cases h with | mp _ r hi h => exact ⟨r,rfl,hi,h⟩
theorem Rep.inv_yld {i : Nat} (h : Rep E (.yld i) rv) : ∃ r,rv = .func (.yield r) #[] #[] ∧ E.D i ∧ E.φ i = some r := by
  cases h with | yld _ r hi h => exact ⟨r,rfl,hi,h⟩
end inv
theorem intA_some {v : AVal} {n : Int} (h : intA v = some n) : ∃ k,v = .val (.int k n) := by
  unfold intA at h
  split at h
  · rename_i k m; exact ⟨k,by simp at h; rw [h]⟩
  · simp at h
theorem Rep.of_int {E : Env} {v : AVal} {n : Int} {rv : Value} (h : intA v = some n) (hr : Rep E v rv) : ∃ k,rv = .int k n := by
  obtain ⟨k,rfl⟩ := intA_some h
  exact ⟨k,hr.inv_val⟩
theorem addr_add (b o n : Nat) : (⟨b,o,none⟩ : Addr).add n = ⟨b,o + n,none⟩ := by
  unfold Addr.add
  split
  · rename_i h; subst h; rfl
  · rfl
theorem run_loadVar' {P : Program} {t : TypeId} {ag : Bool} {k : Nat} (ha : tAgg P t = some ag) (hk : tSize P t = some k) {E : Env} {b off : Nat} {cs : List AVal} (h1 : k ≤ cs.length) (h2 : ag = false → k = 1)
    (h : ∀ (j : Nat) u,cs[j]? = some u → ∃ x,E.w.cell? ⟨b,off + j,none⟩ = some x ∧ Rep E u x) : ∃ rv,(loadVar t ⟨b,off,none⟩).run P E.w = .ok rv E.w ∧ Rep E (cut ag k cs) rv := by
  have hcell : ∀ j,j < k → ∃ x,E.w.cell? ⟨b,off + j,none⟩ = some x ∧ ∃ u,cs[j]? = some u ∧ Rep E u x := fun j hj => by
    have hj' : j < cs.length := by omega
    obtain ⟨x,hx,hr⟩ := h j cs[j] (by simp [hj'])
    exact ⟨x,hx,_,by simp [hj'],hr⟩
  unfold loadVar cut
  simp only [Sem.run_bind,run_isAgg' ha,Result.andThen_ok]
  cases ag with
  | true =>
    have hl := run_loadCells (P := P) (w := E.w) ⟨b,off,none⟩ k (fun j => (E.w.cell? ⟨b,off + j,none⟩).getD undef) (fun j hj => by
      obtain ⟨x,hx,_⟩ := hcell j hj
      rw [addr_add,hx]; rfl)
    simp only [if_true,Sem.run_bind,run_sizeOf' hk,Result.andThen_ok,hl,Sem.run_pure]
    refine ⟨_,rfl,.agg _ _ (by simp [h1]) (fun j u hu => ?_)⟩
    rw [List.getElem?_take] at hu
    split at hu
    · rename_i hj
      obtain ⟨x,hx,u',hu',hr⟩ := hcell j hj
      rw [hu] at hu'
      obtain rfl := Option.some.inj hu'
      have : (((List.range k).map fun j => (E.w.cell? ⟨b,off + j,none⟩).getD undef).toArray).getD j undef = x := by
        simp [hj,hx]
      rw [this]; exact hr
    · simp at hu
  | false =>
    obtain rfl := h2 rfl
    obtain ⟨x,hx,u,hu,hr⟩ := hcell 0 (by omega)
    simp only [Nat.add_zero] at hx
    simp only [Bool.false_eq_true,if_false,run_load,hx]
    refine ⟨x,rfl,?_⟩
    cases cs with
    | nil => simp at hu
    | cons a r => simp at hu; subst hu; simpa using hr
/-! ### One operation after the other -/
section ops
variable {P : Program} {E : Env}
theorem bin_sound {op : BinOp} {t : TypeId} {x y : Operand} {a b : AVal} {ra rb : Value} {p : Prop} {v : AVal} (h : binA op a b = some (p,v)) (hp : p) (h1 : Rep E a ra) (h2 : Rep E b rb) :
    ∃ rv,(do eqGuard op t x y ra rb; binOp op t ra rb : Sem Value).run P E.w = .ok rv E.w ∧ Rep E v rv := by
  unfold binA at h
  split at h
  case h_2 => cases h
  rename_i k n k' m
  cases h1.inv_val; cases h2.inv_val
  have hg : (eqGuard op t x y (.int k n) (.int k' m)).run P E.w = .ok () E.w := by
    unfold eqGuard; cases op <;> simp
  simp only [Sem.run_bind,hg,Result.andThen_ok]
  split at h
  · rename_i hsh
    cases op <;> simp [isSh] at hsh <;> simp only [shI,Option.some.injEq,Prod.mk.injEq] at h <;> obtain ⟨rfl,rfl⟩ := h
    all_goals
      have hm : ¬ m < 0 := by omega
      exact ⟨_,by simp only [binOp,Op.shift,hm,if_false,Sem.run_pure],.val _⟩
  · split at h
    case isFalse => cases h
    rename_i hsh hk
    subst hk
    cases op <;> simp [isSh] at hsh <;> simp only [binI,Option.some.injEq,Prod.mk.injEq] at h <;> obtain ⟨rfl,rfl⟩ := h
    case quo => exact ⟨_,by simp only [binOp,ne_eq,not_true_eq_false,if_false,Op.intDiv,hp,Sem.run_pure],.val _⟩
    case rem => exact ⟨_,by simp only [binOp,ne_eq,not_true_eq_false,if_false,Op.intDiv,hp,Sem.run_pure],.val _⟩
    all_goals exact ⟨_,by first | (simp only [binOp,ne_eq,not_true_eq_false,if_false,Op.intArith,Op.intCmp,Sem.run_pure]; done) | (simp only [binOp,ne_eq,not_true_eq_false,if_false,Op.intBits,Sem.run_pure]; rfl),.val _⟩
theorem eqb_sound {neg : Bool} {t : TypeId} (ht : P.underlying t = some .bool) {x y : Operand} {a b : AVal} {ra rb : Value} {p : Prop} {v : AVal} (h : eqbA neg a b = some (p,v)) (h1 : Rep E a ra) (h2 : Rep E b rb) :
    ∃ rv,(do eqGuard (if neg then .neq else .eql) t x y ra rb; binOp (if neg then .neq else .eql) t ra rb : Sem Value).run P E.w = .ok rv E.w ∧ Rep E v rv := by
  unfold eqbA at h
  split at h
  case h_2 => cases h
  rename_i c d
  cases h1.inv_val; cases h2.inv_val
  simp only [Option.some.injEq,Prod.mk.injEq] at h
  obtain ⟨_,rfl⟩ := h
  have he : (Op.equal t (.bool c) (.bool d)).run P E.w = .ok (c == d) E.w := by
    unfold Op.equal Op.maxDepth Op.equalIn
    simp [run_underlying ht]
  cases neg <;> refine ⟨_,?_,.val _⟩ <;> simp [eqGuard,binOp,he]
theorem eqnil_sound {neg : Bool} {t e : TypeId} (ht : P.underlying t = some (.slice e)) {x y : Operand} {ra rb : Value} (hy : rb = .slice none 0 0) {a : AVal} {p : Prop} {v : AVal} (h : eqnilA neg a = some (p,v)) (hp : p) (h1 : Rep E a ra) :
    ∃ rv,(do eqGuard (if neg then .neq else .eql) t x y ra rb; binOp (if neg then .neq else .eql) t ra rb : Sem Value).run P E.w = .ok rv E.w ∧ Rep E v rv := by
  subst hy
  have key : (v = B (!neg) ∧ ra = .slice none 0 0) ∨ (v = B neg ∧ ∃ x n c,ra = .slice (some x) n c) := by
    unfold eqnilA at h
    split at h <;> simp only [Option.some.injEq,Prod.mk.injEq,reduceCtorEq] at h <;> obtain ⟨rfl,rfl⟩ := h
    · exact .inl ⟨rfl,h1.inv_val⟩
    · rcases h1.inv_sl with ⟨h,_⟩ | ⟨b,off,cap,k,rfl,_⟩ | ⟨_,_,a,rfl⟩
      · cases h
      · exact .inr ⟨rfl,_,_,_,rfl⟩
      · exact .inr ⟨rfl,_,_,_,rfl⟩
    · rcases h1.inv_sl with ⟨_,h,_⟩ | ⟨b,off,cap,k,rfl,_⟩ | ⟨_,_,a,rfl⟩
      · exact absurd h hp
      · exact .inr ⟨rfl,_,_,_,rfl⟩
      · exact .inr ⟨rfl,_,_,_,rfl⟩
    · obtain ⟨_,⟨_,_,h,_⟩ | ⟨r,cap,c,e,_,rfl,_⟩⟩ := h1.inv_own
      · omega
      · exact .inr ⟨rfl,_,_,_,rfl⟩
  rcases key with ⟨rfl,rfl⟩ | ⟨rfl,a,n,c,rfl⟩
  · have he : (Op.equal t (.slice none 0 0) (.slice none 0 0)).run P E.w = .ok true E.w := by
      unfold Op.equal Op.maxDepth Op.equalIn
      simp [run_underlying ht]
    cases neg <;> refine ⟨_,?_,.val _⟩ <;> simp [eqGuard,binOp,he]
  · have he : (Op.equal t (.slice (some a) n c) (.slice none 0 0)).run P E.w = .ok false E.w := by
      unfold Op.equal Op.maxDepth Op.equalIn
      simp [run_underlying ht]
    cases neg <;> refine ⟨_,?_,.val _⟩ <;> simp [eqGuard,binOp,he]
theorem eqs_sound {neg : Bool} {t : TypeId} (ht : P.underlying t = some .string) {x y : Operand} {a b : AVal} {ra rb : Value} {p : Prop} {v : AVal} (h : eqsA neg a b = some (p,v)) (h1 : Rep E a ra) (h2 : Rep E b rb) :
    ∃ rv,(do eqGuard (if neg then .neq else .eql) t x y ra rb; binOp (if neg then .neq else .eql) t ra rb : Sem Value).run P E.w = .ok rv E.w ∧ Rep E v rv := by
  unfold eqsA at h
  split at h
  case h_2 => cases h
  rename_i c d
  cases h1.inv_val; cases h2.inv_val
  simp only [Option.some.injEq,Prod.mk.injEq] at h
  obtain ⟨_,rfl⟩ := h
  cases neg <;> refine ⟨_,?_,.val _⟩ <;> simp [eqGuard,binOp,Op.stringOp,bne]
theorem eqp_sound {neg : Bool} {t e : TypeId} (ht : P.underlying t = some (.pointer e)) {x y : Operand} {ra rb : Value} (hy : rb = .pointer none) {a : AVal} {p : Prop} {v : AVal} (h : eqpA neg a = some (p,v)) (h1 : Rep E a ra) :
    ∃ rv,(do eqGuard (if neg then .neq else .eql) t x y ra rb; binOp (if neg then .neq else .eql) t ra rb : Sem Value).run P E.w = .ok rv E.w ∧ Rep E v rv := by
  subst hy
  have key : (v = B (!neg) ∧ ra = .pointer none) ∨ (v = B neg ∧ ∃ x,ra = .pointer (some x)) := by
    unfold eqpA at h
    split at h <;> simp only [Option.some.injEq,Prod.mk.injEq,reduceCtorEq] at h <;> obtain ⟨_,rfl⟩ := h
    · exact .inl ⟨rfl,h1.inv_val⟩
    · obtain ⟨r,rfl,_⟩ := h1.inv_ptr
      exact .inr ⟨rfl,_,rfl⟩
  rcases key with ⟨rfl,rfl⟩ | ⟨rfl,a,rfl⟩
  · have he : (Op.equal t (.pointer none) (.pointer none)).run P E.w = .ok true E.w := by
      unfold Op.equal Op.maxDepth Op.equalIn
      simp [run_underlying ht]
    cases neg <;> refine ⟨_,?_,.val _⟩ <;> simp [eqGuard,binOp,he]
  · have he : (Op.equal t (.pointer (some a)) (.pointer none)).run P E.w = .ok false E.w := by
      unfold Op.equal Op.maxDepth Op.equalIn
      simp [run_underlying ht]
    cases neg <;> refine ⟨_,?_,.val _⟩ <;> simp [eqGuard,binOp,he]
theorem pick_sound {c a b : AVal} {rc ra rb : Value} {p : Prop} {v : AVal} (h : pickA c a b = some (p,v)) (h0 : Rep E c rc) (h1 : Rep E a ra) (h2 : Rep E b rb) :
    ∃ rv,(do pure (if ← asBool rc then ra else rb) : Sem Value).run P E.w = .ok rv E.w ∧ Rep E v rv := by
  unfold pickA at h
  split at h
  case h_2 => cases h
  simp only [Option.some.injEq,Prod.mk.injEq] at h
  rename_i t
  obtain ⟨_,rfl⟩ := h
  cases h0.inv_val
  refine ⟨if t then ra else rb,by simp [asBool],?_⟩
  cases t <;> simpa
theorem un_sound {op : UnOp} {a : AVal} {ra : Value} {p : Prop} {v : AVal} (h : unA op a = some (p,v)) (h1 : Rep E a ra) : ∃ rv,(Op.unary op ra).run P E.w = .ok rv E.w ∧ Rep E v rv := by
  unfold unA at h
  split at h <;> simp only [Option.some.injEq,Prod.mk.injEq,reduceCtorEq] at h <;> obtain ⟨_,rfl⟩ := h <;> cases h1.inv_val
  · exact ⟨_,by simp [Op.unary,Op.intArith],.val _⟩
  · exact ⟨_,by simp [Op.unary,Op.intBits,bitsI],.val _⟩
  · exact ⟨_,by simp [Op.unary],.val _⟩
theorem conv_sound {s d : TypeId} {k k0 : IntKind} (hs : P.underlying s = some (.int k0)) (hd : P.underlying d = some (.int k)) {a : AVal} {ra : Value} {p : Prop} {v : AVal} (h : convA k a = some (p,v)) (h1 : Rep E a ra) :
    ∃ rv,(convert s d ra).run P E.w = .ok rv E.w ∧ Rep E v rv := by
  unfold convA at h
  split at h <;> simp only [Option.some.injEq,Prod.mk.injEq,reduceCtorEq] at h
  obtain ⟨_,rfl⟩ := h
  cases h1.inv_val
  exact ⟨_,by simp [convert,run_underlying hs,run_underlying hd,Conv.intToInt],.val _⟩
theorem mn_sound {a b : AVal} {ra rb : Value} {p : Prop} {v : AVal} (h : mnA a b = some (p,v)) (h1 : Rep E a ra) (h2 : Rep E b rb) : ∃ rv,(Builtin.min2 ra rb).run P E.w = .ok rv E.w ∧ Rep E v rv := by
  unfold mnA at h
  split at h <;> simp only [Option.some.injEq,Prod.mk.injEq,reduceCtorEq] at h
  obtain ⟨_,rfl⟩ := h
  cases h1.inv_val; cases h2.inv_val
  exact ⟨_,by simp [Builtin.min2],.val _⟩
theorem mx_sound {a b : AVal} {ra rb : Value} {p : Prop} {v : AVal} (h : mxA a b = some (p,v)) (h1 : Rep E a ra) (h2 : Rep E b rb) : ∃ rv,(Builtin.max2 ra rb).run P E.w = .ok rv E.w ∧ Rep E v rv := by
  unfold mxA at h
  split at h <;> simp only [Option.some.injEq,Prod.mk.injEq,reduceCtorEq] at h
  obtain ⟨_,rfl⟩ := h
  cases h1.inv_val; cases h2.inv_val
  exact ⟨_,by simp [Builtin.max2],.val _⟩
theorem ext_sound {a : AVal} {i : Nat} {ra : Value} {p : Prop} {v : AVal} (h : extA a i = some (p,v)) (hp : p) (h1 : Rep E a ra) : ∃ rv,(Instr.extract ra i).run P E.w = .ok rv E.w ∧ Rep E v rv := by
  unfold extA at h
  split at h <;> simp only [Option.some.injEq,Prod.mk.injEq,reduceCtorEq] at h
  obtain ⟨rfl,rfl⟩ := h
  rename_i vs
  obtain ⟨rs,rfl,hs,hr⟩ := h1.inv_tup
  have hi : i < rs.size := by omega
  refine ⟨rs[i],by simp [Instr.extract,hi],?_⟩
  have := hr i vs[i] (by simp [hp])
  simpa [Array.getD,hi,List.getD,hp] using this
theorem nilck_sound {a : AVal} {ra : Value} {p : Prop} {v : AVal} (h : nilckA a = some (p,v)) (h1 : Rep E a ra) {ρ : Operand → Value} {x : Operand} (hx : ρ x = ra) {o : Oper} (ho : o.op = .nilCheck x) :
    ∃ rv,(execOp ρ o).run P E.w = .ok (.value rv) E.w ∧ Rep E v rv := by
  have h0 := h1
  unfold nilckA at h
  split at h <;> simp only [Option.some.injEq,Prod.mk.injEq,reduceCtorEq] at h <;> obtain ⟨_,rfl⟩ := h
  · obtain ⟨r,rfl,_⟩ := h1.inv_ptr; exact ⟨_,by simp [execOp,ho,hx],h0⟩
  · obtain ⟨b,off,rfl,_⟩ := h1.inv_rp; exact ⟨_,by simp [execOp,ho,hx],h0⟩
  · obtain ⟨r,rfl,_⟩ := h1.inv_yld; exact ⟨_,by simp [execOp,ho,hx],h0⟩
  · obtain ⟨fs,cs,rfl,_⟩ := h1.inv_fn; exact ⟨_,by simp [execOp,ho,hx],h0⟩
theorem load_sound {φ : Nat → Option Nat} {G : Nat → Prop} {H : AHeap} {w : World} (hs : SimH φ G H w) {t : TypeId} {ag : Bool} {k : Nat} (ha : tAgg P t = some ag) (hk : tSize P t = some k)
    {a : AVal} {ra : Value} {p : Prop} {v : AVal} (h : loadA ag k a H = some (p,v)) (hp : p) (h1 : Rep (env φ G H w) a ra) : ∃ rv,(Instr.loadAt t ra).run P w = .ok rv w ∧ Rep (env φ G H w) v rv := by
  unfold loadA at h
  split at h
  · simp only [Option.some.injEq,Prod.mk.injEq] at h
    obtain ⟨rfl,rfl⟩ := h
    obtain ⟨b,off,rfl,_,_,hc⟩ := h1.inv_rp
    obtain ⟨rv,hr,hv⟩ := run_loadVar' (E := env φ G H w) ha hk hp.1 hp.2 hc
    exact ⟨rv,by simp [Instr.loadAt,Instr.sureAddr]; exact hr,hv⟩
  · rename_i i off
    split at h
    case h_2 => cases h
    rename_i cs hi
    simp only [Option.some.injEq,Prod.mk.injEq] at h
    obtain ⟨rfl,rfl⟩ := h
    obtain ⟨r,rfl,hN,hφ⟩ := h1.inv_ptr
    have hb := hs.blk i _ hi
    have hφ' : φ i = some r := hφ
    simp only [BlkRep,hφ'] at hb
    obtain ⟨c,e,hc,hl,hr⟩ := hb
    obtain ⟨rv,hr,hv⟩ := run_loadVar' (P := P) (E := env φ G H w) (b := r) (off := off) (cs := cs.drop off) ha hk (by simp; omega) hp.2 (fun j u hu => by
      rw [List.getElem?_drop] at hu
      have hlt : off + j < cs.length := by
        rcases Nat.lt_or_ge (off + j) cs.length with h | h
        · exact h
        · simp [List.getElem?_eq_none h] at hu
      have hlt' : off + j < c.size := by omega
      have hrep := hr (off + j) u hu
      rw [Array.getD_eq_getD_getElem?,Array.getElem?_eq_getElem hlt'] at hrep
      refine ⟨c[off + j],?_,hrep⟩
      have hc' : w.heap[r]? = some (.cells c e (0,0)) := hc
      show w.cell? _ = _
      simp [World.cell?,hc',hlt'])
    exact ⟨rv,by simp [Instr.loadAt,Instr.sureAddr]; exact hr,hv⟩
  · cases h
theorem cut_agg {cs : List AVal} {vs : Array Value} (hs : vs.size = cs.length) (hr : ∀ (j : Nat) u,cs[j]? = some u → Rep E u (vs.getD j undef)) {ty : TypeId} {ag : Bool} {k off : Nat} (ha : tAgg P ty = some ag) (hk : tSize P ty = some k)
    (h1 : off + k ≤ cs.length) (h2 : ag = false → k = 1) : ∃ rv,(part ty vs off).run P E.w = .ok rv E.w ∧ Rep E (cut ag k (cs.drop off)) rv := by
  unfold part cut
  simp only [Sem.run_bind,run_isAgg' ha,Result.andThen_ok]
  cases ag with
  | true =>
    simp only [if_true,Sem.run_bind,run_sizeOf' hk,Result.andThen_ok,Sem.run_pure]
    refine ⟨_,rfl,.agg _ _ (by simp; omega) (fun j u hu => ?_)⟩
    rw [List.getElem?_take] at hu
    split at hu
    · rename_i hj
      rw [List.getElem?_drop] at hu
      have := hr (off + j) u hu
      have he : (vs.extract off (off + k)).getD j undef = vs.getD (off + j) undef := by
        have h3 : off + j < vs.size := by omega
        have h4 : j < (vs.extract off (off + k)).size := by simp; omega
        have h5 : j < min (off + k) vs.size - off := by simpa using h4
        simp [Array.getD,h3,h5]
      rw [he]; exact this
    · simp at hu
  | false =>
    obtain rfl := h2 rfl
    have h3 : off < vs.size := by omega
    simp only [Bool.false_eq_true,if_false,Array.getElem?_eq_getElem h3]
    refine ⟨_,rfl,?_⟩
    have h4 : off < cs.length := by omega
    have := hr off cs[off] (by simp [h4])
    rw [List.drop_eq_getElem_cons h4]
    rw [Array.getD_eq_getD_getElem?,Array.getElem?_eq_getElem h3] at this
    exact this
theorem fld_sound {s : TypeId} {fs : Array Field} {f : Nat} {fd : Field} (hs : P.underlying s = some (.struct fs)) (hf : fs[f]? = some fd) {ag : Bool} {k : Nat} (ha : tAgg P fd.type = some ag) (hk : tSize P fd.type = some k)
    {a : AVal} {ra : Value} {p : Prop} {v : AVal} (h : fldVA ag k fd.offset a = some (p,v)) (hp : p) (h1 : Rep E a ra) : ∃ rv,(Instr.field s ra f).run P E.w = .ok rv E.w ∧ Rep E v rv := by
  unfold fldVA at h
  split at h <;> simp only [Option.some.injEq,Prod.mk.injEq,reduceCtorEq] at h
  obtain ⟨rfl,rfl⟩ := h
  obtain ⟨vs,rfl,hz,hr⟩ := h1.inv_agg
  obtain ⟨rv,h3,h4⟩ := cut_agg hz hr ha hk hp.1 hp.2
  exact ⟨rv,by simp [Instr.field,run_underlying hs,hf,asAgg]; exact h3,h4⟩
theorem fldA_sound {s : TypeId} {fs : Array Field} {f : Nat} {fd : Field} (hs : P.underlying s = some (.struct fs)) (hf : fs[f]? = some fd) {k : Nat} (hk : tSize P fd.type = some k) (hk0 : k ≠ 0)
    {a : AVal} {ra : Value} {p : Prop} {v : AVal} (h : fldAA fd.offset a = some (p,v)) (hp : p) (h1 : Rep E a ra) : ∃ rv,(Instr.fieldAt s ra f).run P E.w = .ok rv E.w ∧ Rep E v rv := by
  unfold fldAA at h
  split at h <;> simp only [Option.some.injEq,Prod.mk.injEq,reduceCtorEq] at h <;> obtain ⟨rfl,rfl⟩ := h
  · obtain ⟨r,rfl,hN,hφ⟩ := h1.inv_ptr
    exact ⟨_,by simp [Instr.fieldAt,run_underlying hs,hf,Instr.sureAddr,fieldPlace,run_sizeOf' hk,hk0,addr_add],.ptr _ _ r hN hφ⟩
  · rename_i cs
    obtain ⟨b,off,rfl,_,hb,hc⟩ := h1.inv_rp
    refine ⟨.pointer (some ⟨b,off + fd.offset,none⟩),by simp [Instr.fieldAt,run_underlying hs,hf,Instr.sureAddr,fieldPlace,run_sizeOf' hk,hk0,addr_add],Rep.mk_rp (by simp; omega) hb (fun j u hu => ?_)⟩
    rw [List.getElem?_drop] at hu
    obtain ⟨x,hx,hr⟩ := hc _ u hu
    exact ⟨x,by rw [Nat.add_assoc]; exact hx,hr⟩
theorem ints_get : ∀ {cs : List AVal} {l : List Int},ints cs = some l → l.length = cs.length ∧ ∀ (j : Nat),j < cs.length → cs[j]? = some (I (l.getD j 0))
  | [],l,h => by simp [ints] at h; subst h; simp
  | c :: cs,l,h => by
    unfold ints at h
    split at h
    · rename_i heq; cases heq
    · rename_i a r heq
      cases heq
      obtain ⟨l',hl,rfl⟩ := Option.map_eq_some_iff.1 h
      obtain ⟨h1,h2⟩ := ints_get hl
      refine ⟨by simp [h1],fun j hj => ?_⟩
      cases j with
      | zero => rfl
      | succ j => simpa using h2 j (by simpa using hj)
    · cases h
theorem eqItems_run {e : TypeId} {k : IntKind} (he : P.underlying e = some (.int k)) {cs ds : List AVal} {vs ws : Array Value} {l m : List Int} {n : Nat} (hl : ints cs = some l) (hm : ints ds = some m) (hln : l.length = n) (hmn : m.length = n)
    (h1 : vs.size = cs.length) (h2 : ws.size = ds.length) (r1 : ∀ (j : Nat) u,cs[j]? = some u → Rep E u (vs.getD j undef)) (r2 : ∀ (j : Nat) u,ds[j]? = some u → Rep E u (ws.getD j undef)) (d : Nat) :
    ∀ (is : List Nat),(∀ i ∈ is,i < n) → (Op.eqItems (d + 1) e 1 vs ws is).run P E.w = .ok (is.all fun i => l.getD i 0 == m.getD i 0) E.w
  | [],_ => by simp [Op.eqItems]
  | i :: is,hi => by
    have hin := hi i (by simp)
    obtain ⟨a1,a2⟩ := ints_get hl
    obtain ⟨b1,b2⟩ := ints_get hm
    have hag : tAgg P e = some false := by simp [tAgg,he]
    have one : ∀ (us : Array Value) (c : Int),i < us.size → us.getD i undef = .int .i64 c → (part e us (i * 1)).run P E.w = .ok (.int .i64 c) E.w := fun us c hu hc => by
      rw [Nat.mul_one]
      unfold part
      simp only [Sem.run_bind,run_isAgg' hag,Result.andThen_ok,Bool.false_eq_true,if_false,Array.getElem?_eq_getElem hu]
      rw [Array.getD_eq_getD_getElem?,Array.getElem?_eq_getElem hu] at hc
      simp at hc
      rw [hc]; rfl
    have v1 := (r1 i _ (a2 i (by omega))).inv_val
    have v2 := (r2 i _ (b2 i (by omega))).inv_val
    have p1 := one vs (l.getD i 0) (by omega) v1
    have p2 := one ws (m.getD i 0) (by omega) v2
    have p3 : (Op.equalIn (d + 1) e (.int .i64 (l.getD i 0)) (.int .i64 (m.getD i 0))).run P E.w = .ok (l.getD i 0 == m.getD i 0) E.w := by
      unfold Op.equalIn
      simp [run_underlying he]
    have ih := eqItems_run he hl hm hln hmn h1 h2 r1 r2 d is fun j hj => hi j (by simp [hj])
    simp only [Op.eqItems,Sem.run_bind,p1,p2,p3,Result.andThen_ok,List.all_cons]
    cases hq : (l.getD i 0 == m.getD i 0)
    · simp
    · simpa using ih
theorem all_range_eq {l m : List Int} {n : Nat} (hl : l.length = n) (hm : m.length = n) : ((List.range n).all fun i => l.getD i 0 == m.getD i 0) = (l == m) := by
  rw [Bool.eq_iff_iff,List.all_eq_true,beq_iff_eq]
  constructor
  · intro h
    refine List.ext_getElem (by omega) fun i h1 h2 => ?_
    have := h i (List.mem_range.2 (by omega))
    rw [beq_iff_eq,List.getD_eq_getElem?_getD,List.getD_eq_getElem?_getD,List.getElem?_eq_getElem h1,List.getElem?_eq_getElem h2] at this
    exact this
  · rintro rfl i _; simp
theorem eqFields_run {cs ds : List AVal} {vs ws : Array Value} {l m : List Int} (hl : ints cs = some l) (hm : ints ds = some m)
    (h1 : vs.size = cs.length) (h2 : ws.size = ds.length) (r1 : ∀ (j : Nat) u,cs[j]? = some u → Rep E u (vs.getD j undef)) (r2 : ∀ (j : Nat) u,ds[j]? = some u → Rep E u (ws.getD j undef)) (d : Nat) :
    ∀ (fs : List Field) (i : Nat),strOk P i fs = true → l.length = i + fs.length → m.length = i + fs.length → (Op.eqFields (d + 1) vs ws fs).run P E.w = .ok (l.drop i == m.drop i) E.w
  | [],i,_,a,b => by
    rw [List.drop_of_length_le (by simp at a; omega),List.drop_of_length_le (by simp at b; omega)]
    simp [Op.eqFields]
  | f :: fs,i,hk,a,b => by
    simp only [List.length_cons] at a b
    simp only [strOk,Bool.and_eq_true,beq_iff_eq,bne_iff_ne,ne_eq] at hk
    obtain ⟨hn,ho,hk,hr⟩ := hk
    split at hk
    case h_2 => cases hk
    rename_i k he
    obtain ⟨a1,a2⟩ := ints_get hl
    obtain ⟨b1,b2⟩ := ints_get hm
    have hag : tAgg P f.type = some false := by simp [tAgg,he]
    have one : ∀ (us : Array Value) (c : Int),i < us.size → us.getD i undef = .int .i64 c → (part f.type us f.offset).run P E.w = .ok (.int .i64 c) E.w := fun us c hu hc => by
      rw [ho]
      unfold part
      simp only [Sem.run_bind,run_isAgg' hag,Result.andThen_ok,Bool.false_eq_true,if_false,Array.getElem?_eq_getElem hu]
      rw [Array.getD_eq_getD_getElem?,Array.getElem?_eq_getElem hu] at hc
      simp at hc
      rw [hc]; rfl
    have v1 := (r1 i _ (a2 i (by omega))).inv_val
    have v2 := (r2 i _ (b2 i (by omega))).inv_val
    have p1 := one vs (l.getD i 0) (by omega) v1
    have p2 := one ws (m.getD i 0) (by omega) v2
    have p3 : (Op.equalIn (d + 1) f.type (.int .i64 (l.getD i 0)) (.int .i64 (m.getD i 0))).run P E.w = .ok (l.getD i 0 == m.getD i 0) E.w := by
      unfold Op.equalIn
      simp [run_underlying he]
    have ih := eqFields_run hl hm h1 h2 r1 r2 d fs (i + 1) hr (by omega) (by omega)
    have il : i < l.length := by omega
    have im : i < m.length := by omega
    have gl : l.getD i 0 = l[i] := by rw [List.getD_eq_getElem?_getD,List.getElem?_eq_getElem il]; rfl
    have gm : m.getD i 0 = m[i] := by rw [List.getD_eq_getElem?_getD,List.getElem?_eq_getElem im]; rfl
    rw [List.drop_eq_getElem_cons il,List.drop_eq_getElem_cons im,← gl,← gm]
    simp only [Op.eqFields,ne_eq,hn,not_false_eq_true,if_true,Sem.run_bind,p1,p2,p3,Result.andThen_ok]
    cases hq : (l.getD i 0 == m.getD i 0)
    · have : ((l.getD i 0 :: l.drop (i + 1)) == (m.getD i 0 :: m.drop (i + 1))) = false := by rw [List.cons_beq_cons,hq]; rfl
      rw [this]; simp
    · have : ((l.getD i 0 :: l.drop (i + 1)) == (m.getD i 0 :: m.drop (i + 1))) = (l.drop (i + 1) == m.drop (i + 1)) := by rw [List.cons_beq_cons,hq]; rfl
      rw [this]; simpa using ih
theorem eqw_sound {neg : Bool} {t : TypeId} {fs : Array Field} (ht : P.underlying t = some (.struct fs)) (hi : intStr P t fs = true) {x y : Operand} {a b : AVal} {ra rb : Value} {p : Prop} {v : AVal} (h : eqvA neg fs.size a b = some (p,v)) (hp : p) (h1 : Rep E a ra) (h2 : Rep E b rb) :
    ∃ rv,(do eqGuard (if neg then .neq else .eql) t x y ra rb; binOp (if neg then .neq else .eql) t ra rb : Sem Value).run P E.w = .ok rv E.w ∧ Rep E v rv := by
  unfold eqvA at h
  split at h
  case h_2 => cases h
  rename_i cs ds
  split at h
  case h_2 => cases h
  rename_i l m hl hm
  simp only [Option.some.injEq,Prod.mk.injEq] at h
  obtain ⟨rfl,rfl⟩ := h
  obtain ⟨hln,hmn⟩ := hp
  simp only [intStr,Bool.and_eq_true,Bool.not_eq_true'] at hi
  obtain ⟨hk,hs,hg⟩ := hi
  cases h1 with
  | agg _ vs s1 r1 =>
  cases h2 with
  | agg _ ws s2 r2 =>
  have hf : P.fieldsOf t = fs := by unfold Program.fieldsOf; rw [ht]
  have key : (Op.equalIn 10000 t (.agg vs) (.agg ws)).run P E.w = .ok (l == m) E.w := by
    rw [run_equalIn_struct E.w 9999 t vs ws (by rw [hf]; exact ht) hs,hf,eqFields_run hl hm s1 s2 r1 r2 9998 fs.toList 0 hk (by simpa using hln) (by simpa using hmn)]
    simp
  cases neg
  · refine ⟨.bool (l == m),?_,by cases (l == m) <;> exact .val _⟩
    simp only [Bool.false_eq_true,if_false,Sem.run_bind,run_eqGuard_agg E.w _ _ _ _ _ _ hg,Result.andThen_ok,run_eql_struct,key]
  · refine ⟨.bool (!(l == m)),?_,by cases (l == m) <;> exact .val _⟩
    simp only [if_true,Sem.run_bind,run_eqGuard_agg E.w _ _ _ _ _ _ hg,Result.andThen_ok,run_neq_struct,key]
theorem eqv_sound {neg : Bool} {t e : TypeId} {n : Nat} (ht : P.underlying t = some (.array n e)) (hi : intArr P t e = true) {x y : Operand} {a b : AVal} {ra rb : Value} {p : Prop} {v : AVal} (h : eqvA neg n a b = some (p,v)) (hp : p) (h1 : Rep E a ra) (h2 : Rep E b rb) :
    ∃ rv,(do eqGuard (if neg then .neq else .eql) t x y ra rb; binOp (if neg then .neq else .eql) t ra rb : Sem Value).run P E.w = .ok rv E.w ∧ Rep E v rv := by
  unfold eqvA at h
  split at h
  case h_2 => cases h
  rename_i cs ds
  split at h
  case h_2 => cases h
  rename_i l m hl hm
  simp only [Option.some.injEq,Prod.mk.injEq] at h
  obtain ⟨rfl,rfl⟩ := h
  obtain ⟨hln,hmn⟩ := hp
  simp only [intArr,Bool.and_eq_true,beq_iff_eq,Bool.not_eq_true'] at hi
  obtain ⟨⟨hk,hsz⟩,hg⟩ := hi
  split at hk
  case h_2 => cases hk
  rename_i k he
  cases h1 with
  | agg _ vs s1 r1 =>
  cases h2 with
  | agg _ ws s2 r2 =>
  obtain ⟨inf,hinf⟩ : ∃ i,P.info? e = some i := by
    unfold tSize at hsz
    cases hq : P.info? e with
    | none => rw [hq] at hsz; cases hsz
    | some i => exact ⟨i,rfl⟩
  have hc : P.cellsOf e = 1 := by
    unfold Program.cellsOf; unfold tSize at hsz; rw [hsz]; rfl
  have key : (Op.equalIn 10000 t (.agg vs) (.agg ws)).run P E.w = .ok (l == m) E.w := by
    rw [run_equalIn_array E.w 9999 vs ws ht hinf,hc,eqItems_run he hl hm hln hmn s1 s2 r1 r2 9998 (List.range n) (fun i hi => List.mem_range.1 hi),all_range_eq hln hmn]
  cases neg
  · refine ⟨.bool (l == m),?_,by cases (l == m) <;> exact .val _⟩
    simp only [Bool.false_eq_true,if_false,Sem.run_bind,run_eqGuard_agg E.w _ _ _ _ _ _ hg,Result.andThen_ok,run_eql_struct,key]
  · refine ⟨.bool (!(l == m)),?_,by cases (l == m) <;> exact .val _⟩
    simp only [if_true,Sem.run_bind,run_eqGuard_agg E.w _ _ _ _ _ _ hg,Result.andThen_ok,run_neq_struct,key]
theorem ixV_sound {t e : TypeId} {n : Nat} (ht : P.underlying t = some (.array n e)) {ag : Bool} {k : Nat} (ha : tAgg P e = some ag) (hk : tSize P e = some k)
    {a i : AVal} {ra ri : Value} {p : Prop} {v : AVal} (h : ixVA ag n k a i = some (p,v)) (hp : p) (h1 : Rep E a ra) (h2 : Rep E i ri) : ∃ rv,(Instr.index t ra ri).run P E.w = .ok rv E.w ∧ Rep E v rv := by
  unfold ixVA at h
  split at h <;> simp only [Option.some.injEq,Prod.mk.injEq,reduceCtorEq] at h
  rename_i cs m hi
  obtain ⟨rfl,rfl⟩ := h
  obtain ⟨kk,rfl⟩ := h2.of_int hi
  obtain ⟨vs,rfl,hz,hr⟩ := h1.inv_agg
  obtain ⟨rv,h3,h4⟩ := cut_agg hz hr ha hk hp.2.2.1 hp.2.2.2
  refine ⟨rv,?_,h4⟩
  simp [Instr.index,asIntOf,run_underlying ht,hp.1,hp.2.1,run_sizeOf' hk]
  exact h3
theorem ixStr_sound {t : TypeId} (ht : P.underlying t = some .string) {a i : AVal} {ra ri : Value} {p : Prop} {v : AVal} (h : ixStrA a i = some (p,v)) (hp : p) (h1 : Rep E a ra) (h2 : Rep E i ri) : ∃ rv,(Instr.index t ra ri).run P E.w = .ok rv E.w ∧ Rep E v rv := by
  unfold ixStrA at h
  split at h <;> simp only [Option.some.injEq,Prod.mk.injEq,reduceCtorEq] at h
  rename_i s m hi
  obtain ⟨rfl,rfl⟩ := h
  obtain ⟨kk,rfl⟩ := h2.of_int hi
  cases h1.inv_val
  have hlt : m.toNat < s.size := by omega
  have hg : s[m.toNat]? = some (s.get! m.toNat) := by
    rw [getElem?_pos s m.toNat hlt]
    simp only [ByteArray.get!,Option.some.injEq]
    exact (getElem!_pos s.data m.toNat hlt).symm
  exact ⟨_,by simp [Instr.index,asIntOf,run_underlying ht,hp.1,hg],.val _⟩
theorem ixS_sound {t e : TypeId} (ht : P.underlying t = some (.slice e)) {k : Nat} (hk : tSize P e = some k)
    {a i : AVal} {ra ri : Value} {p : Prop} {v : AVal} (h : ixSA k a i = some (p,v)) (hp : p) (h1 : Rep E a ra) (h2 : Rep E i ri) : ∃ rv,(Instr.indexAt t ra ri).run P E.w = .ok rv E.w ∧ Rep E v rv := by
  unfold ixSA at h
  split at h
  · rename_i xs m hi
    simp only [Option.some.injEq,Prod.mk.injEq] at h
    obtain ⟨rfl,rfl⟩ := h
    obtain ⟨hp1,hp2,hp3,hp4⟩ := hp
    obtain ⟨kk,rfl⟩ := h2.of_int hi
    have hlt : m.toNat < xs.length := by omega
    rcases h1.inv_sl with ⟨_,rfl,_⟩ | ⟨b,off,cap,k',rfl,h0,hb,_,_,hkk,hc⟩ | ⟨rfl,_⟩
    · simp at hlt
    rotate_left
    · simp at hlt
    have he : xs[m.toNat]? = some (xs.getD m.toNat .any) := by simp [List.getD,hlt]
    have hkk' := hkk _ _ he
    have hkeq : k' = k := by omega
    subst hkeq
    refine ⟨_,by simp [Instr.indexAt,asIntOf,run_underlying ht,hp1,hp2,run_sizeOf' hk,addr_add],Rep.mk_rp ?_ (hb (by intro h; subst h; simp at hlt)) (fun j u hu => hc _ _ he j u hu)⟩
    intro hnil; rw [hnil] at hp3; simp at hp3; omega
  · rename_i b off len lb k' m hi
    split at h
    case isFalse => cases h
    rename_i hkk
    subst hkk
    simp only [Option.some.injEq,Prod.mk.injEq] at h
    obtain ⟨rfl,rfl⟩ := h
    obtain ⟨kk,rfl⟩ := h2.of_int hi
    obtain ⟨hN,⟨_,_,h0,_⟩ | ⟨r,cap,c,ee,hφ,rfl,hc,hs,hlb,hl⟩⟩ := h1.inv_own
    · omega
    · exact ⟨_,by simp [Instr.indexAt,asIntOf,run_underlying ht,hp.1,hp.2,run_sizeOf' hk,addr_add],.ptr _ _ r hN hφ⟩
  · cases h
theorem ixP_sound {t e : TypeId} {n : Nat} (ht : P.underlying t = some (.array n e)) {k : Nat} (hk : tSize P e = some k)
    {a i : AVal} {ra ri : Value} {p : Prop} {v : AVal} (h : ixPA n k a i = some (p,v)) (hp : p) (h1 : Rep E a ra) (h2 : Rep E i ri) : ∃ rv,(Instr.indexAt t ra ri).run P E.w = .ok rv E.w ∧ Rep E v rv := by
  unfold ixPA at h
  split at h <;> simp only [Option.some.injEq,Prod.mk.injEq,reduceCtorEq] at h <;> obtain ⟨rfl,rfl⟩ := h
  · rename_i b off m hi
    obtain ⟨kk,rfl⟩ := h2.of_int hi
    obtain ⟨r,rfl,hN,hφ⟩ := h1.inv_ptr
    exact ⟨_,by simp [Instr.indexAt,asIntOf,run_underlying ht,Instr.sureAddr,hp.1,hp.2,run_sizeOf' hk,addr_add],.ptr _ _ r hN hφ⟩
  · rename_i cs m hi
    obtain ⟨kk,rfl⟩ := h2.of_int hi
    obtain ⟨b,off,rfl,_,hb,hc⟩ := h1.inv_rp
    refine ⟨.pointer (some ⟨b,off + m.toNat * k,none⟩),by simp [Instr.indexAt,asIntOf,run_underlying ht,Instr.sureAddr,hp.1,hp.2.1,run_sizeOf' hk,addr_add],Rep.mk_rp (by simp; omega) hb (fun j u hu => ?_)⟩
    rw [List.getElem?_drop] at hu
    obtain ⟨x,hx,hr⟩ := hc _ u hu
    exact ⟨x,by rw [Nat.add_assoc]; exact hx,hr⟩
theorem len_sound {t e : TypeId} (ht : P.underlying t = some (.slice e)) {ts : Array TypeId} (hts : ts[0]? = some t) {ty : TypeId} {a : AVal} {ra : Value} {p : Prop} {v : AVal} (h : lenA a = some (p,v)) (h1 : Rep E a ra) :
    ∃ rv,(Builtin.len_ ts ty #[ra]).run P E.w = .ok rv E.w ∧ Rep E v rv := by
  have key : ∀ (x : Option Addr) n c,(Builtin.len_ ts ty #[.slice x n c]).run P E.w = .ok (.int .i64 n) E.w := fun x n c => by
    simp [Builtin.len_,hts,run_underlying ht,goInt]
  unfold lenA at h
  split at h <;> simp only [Option.some.injEq,Prod.mk.injEq,reduceCtorEq] at h <;> obtain ⟨_,rfl⟩ := h
  · rcases h1.inv_sl with ⟨_,rfl,rfl⟩ | ⟨b,off,cap,k,rfl,_⟩ | ⟨rfl,_,a,rfl⟩ <;> exact ⟨_,key _ _ _,.val _⟩
  · obtain ⟨hN,⟨_,rfl,rfl,_,a,rfl⟩ | ⟨r,cap,c,ee,hφ,rfl,_⟩⟩ := h1.inv_own <;> exact ⟨_,key _ _ _,.val _⟩
  · cases h1.inv_val; exact ⟨_,key _ _ _,.val _⟩
theorem lenStr_sound {t : TypeId} (ht : P.underlying t = some .string) {ts : Array TypeId} (hts : ts[0]? = some t) {ty : TypeId} {a : AVal} {ra : Value} {p : Prop} {v : AVal} (h : lenStrA a = some (p,v)) (h1 : Rep E a ra) :
    ∃ rv,(Builtin.len_ ts ty #[ra]).run P E.w = .ok rv E.w ∧ Rep E v rv := by
  unfold lenStrA at h
  split at h <;> simp only [Option.some.injEq,Prod.mk.injEq,reduceCtorEq] at h
  obtain ⟨_,rfl⟩ := h
  cases h1.inv_val
  exact ⟨_,by simp [Builtin.len_,hts,run_underlying ht,goInt],.val _⟩
theorem lenc_sound {t e : TypeId} {n : Nat} (ht : P.underlying t = some (.array n e)) {ts : Array TypeId} (hts : ts[0]? = some t) {ty : TypeId} (ra : Value) :
    (Builtin.len_ ts ty #[ra]).run P E.w = .ok (.int .i64 n) E.w := by
  simp [Builtin.len_,hts,run_underlying ht,goInt]
/-! ### Slices of slices -/
theorem run_sliceBound {P : Program} {kk : IntKind} {i : Int} {y : Nat} {code : BoundsCode} (w : World) (h0 : 0 ≤ i) (h1 : i ≤ y) : (Instr.sliceBound (.int kk i) y code).run P w = .ok i.toNat w := by
  simp [Instr.sliceBound,asIntOf,h0,h1]
inductive LoV : Option Value → Int → Prop
  | tN : LoV none 0
  | tS (kk : IntKind) (l : Int) : LoV (some (.int kk l)) l
theorem run_lo {P : Program} {lo : Option Value} {l : Int} (h : LoV lo l) {y : Nat} (code : BoundsCode) (w : World) (h0 : 0 ≤ l) (h1 : l ≤ y) :
    (match lo with | some v => Instr.sliceBound v y code | none => pure 0 : Sem Nat).run P w = .ok l.toNat w := by
  cases h with
  | tN => rfl
  | tS kk l => exact run_sliceBound w h0 h1
theorem sb1 {P : Program} (s : Bool) (len cap : Nat) {lo : Option Value} {l : Int} (hl : LoV lo l) (w : World) (h0 : 0 ≤ l) (h1 : l ≤ len) : (Instr.sliceBounds s len cap lo none none).run P w = .ok (l.toNat,len,cap) w := by
  have := run_lo (P := P) hl (y := len) .sliceB w h0 h1
  unfold Instr.sliceBounds
  cases lo <;> simp at this ⊢ <;> simp [this]
theorem sb2 {P : Program} (s : Bool) (len cap : Nat) {lo : Option Value} {l h : Int} {kk : IntKind} (hl : LoV lo l) (w : World) (h0 : 0 ≤ l) (h1 : l ≤ h) (h2 : h ≤ cap) :
    (Instr.sliceBounds s len cap lo (some (.int kk h)) none).run P w = .ok (l.toNat,h.toNat,cap) w := by
  have := run_lo (P := P) hl (y := h.toNat) .sliceB w h0 (by omega)
  have hh := fun code => run_sliceBound (P := P) (kk := kk) (i := h) (y := cap) (code := code) w (by omega) h2
  unfold Instr.sliceBounds
  cases lo <;> simp at this ⊢ <;> simp [this,hh]
theorem sb3 {P : Program} (s : Bool) (len cap : Nat) {lo : Option Value} {l h m : Int} {kk km : IntKind} (hl : LoV lo l) (w : World) (h0 : 0 ≤ l) (h1 : l ≤ h) (h2 : h ≤ m) (h3 : m ≤ cap) :
    (Instr.sliceBounds s len cap lo (some (.int kk h)) (some (.int km m))).run P w = .ok (l.toNat,h.toNat,m.toNat) w := by
  have := run_lo (P := P) hl (y := h.toNat) .slice3C w h0 (by omega)
  have hh := fun code => run_sliceBound (P := P) (kk := kk) (i := h) (y := m.toNat) (code := code) w (by omega) (by omega)
  have hm := fun code => run_sliceBound (P := P) (kk := km) (i := m) (y := cap) (code := code) w (by omega) h3
  unfold Instr.sliceBounds
  cases lo <;> simp at this ⊢ <;> simp [this,hh,hm]
theorem run_sliceAt_S {t e : TypeId} (ht : P.underlying t = some (.slice e)) {k : Nat} (hk : tSize P e = some k) {a : Option Addr} {len cap l h m : Nat} {lo hi mx : Option Value} {w : World}
    (hb : (Instr.sliceBounds true len cap lo hi mx).run P w = .ok (l,h,m) w) :
    (Instr.sliceAt t (.slice a len cap) lo hi mx).run P w = .ok (.slice (if m = l then a else a.map (·.add (l * k))) (h - l) (m - l)) w := by
  unfold Instr.sliceAt
  simp only [Sem.run_bind,run_underlying ht,Result.andThen_ok]
  unfold Instr.slice
  simp only [Sem.run_bind,run_underlying ht,Result.andThen_ok,hb,run_sizeOf' hk,Sem.run_pure]
theorem sl_sub {nn t : Bool} {xs : List AVal} {b off k l h m : Nat} (h0 : 0 < k) (hb : xs ≠ [] → ¬ E.X b) (hk : ∀ (i : Nat) (e : AVal),xs[i]? = some e → e.cells.length = k)
    (hc : ∀ (i : Nat) (e : AVal),xs[i]? = some e → ∀ (j : Nat) u,e.cells[j]? = some u → ∃ x,E.w.cell? ⟨b,off + i * k + j,none⟩ = some x ∧ Rep E u x)
    (h1 : l ≤ h) (h2 : h ≤ xs.length) (h3 : h ≤ m) (ht : t = true → m = h) :
    Rep E (.sl nn t ((xs.take h).drop l)) (.slice (if m = l then some ⟨b,off,none⟩ else (some ⟨b,off,none⟩ : Option Addr).map (·.add (l * k))) (h - l) (m - l)) := by
  have hlen : ((xs.take h).drop l).length = h - l := by simp; omega
  by_cases hml : m = l
  · have : h = l := by omega
    subst this
    have hnil : (xs.take h).drop h = [] := by
      apply List.eq_nil_of_length_eq_zero; simp
    rw [hnil,if_pos hml]
    simp only [Nat.sub_self]
    exact Rep.mk_sl_nil (fun ht' => by have := ht ht'; omega)
  · rw [if_neg hml]
    simp only [Option.map_some,addr_add]
    refine Rep.mk_sl hlen.symm h0 (fun hn => hb (by rintro rfl; simp at hn)) (by omega) (fun ht' => by have := ht ht'; omega) (fun i e he => ?_) (fun i e he j u hu => ?_)
    · rw [List.getElem?_drop,List.getElem?_take] at he
      split at he
      · exact hk _ e he
      · cases he
    · rw [List.getElem?_drop,List.getElem?_take] at he
      split at he
      · obtain ⟨x,hx,hr⟩ := hc _ e he j u hu
        refine ⟨x,?_,hr⟩
        rw [show off + l * k + i * k + j = off + (l + i) * k + j by rw [Nat.add_mul]; omega]
        exact hx
      · cases he
theorem LoV.of {lo : Option AVal} {rlo : Option Value} {l : Int} (h : (match lo with | none => some 0 | some v => intA v) = some l) (hn : lo = none → rlo = none) (hs : ∀ v,lo = some v → ∃ rv,rlo = some rv ∧ Rep E v rv) : LoV rlo l := by
  cases lo with
  | none => simp at h; subst h; rw [hn rfl]; exact .tN
  | some v =>
    obtain ⟨rv,rfl,hr⟩ := hs v rfl
    obtain ⟨kk,rfl⟩ := hr.of_int h
    exact .tS kk l
theorem bound_of {hi : Option AVal} {rhi : Option Value} {h : Int} (hh : hi.map intA = some (some h)) (hs : ∀ v,hi = some v → ∃ rv,rhi = some rv ∧ Rep E v rv) : ∃ kk,rhi = some (.int kk h) := by
  cases hi with
  | none => simp at hh
  | some v =>
    simp at hh
    obtain ⟨rv,rfl,hr⟩ := hs v rfl
    obtain ⟨kk,rfl⟩ := hr.of_int hh
    exact ⟨kk,rfl⟩
theorem sl_size {xs : List AVal} {k k' : Nat} (hn : xs ≠ []) (h1 : szOk k xs) (hk : ∀ (i : Nat) (e : AVal),xs[i]? = some e → e.cells.length = k') : k' = k := by
  cases xs with
  | nil => exact absurd rfl hn
  | cons a r => rw [← hk 0 a rfl,h1 a (by simp)]
theorem slS_sound {t e : TypeId} (ht : P.underlying t = some (.slice e)) {k : Nat} (hk : tSize P e = some k) {x : AVal} {lo hi mx : Option AVal} {rx : Value} {rlo rhi rmx : Option Value} {p : Prop} {v : AVal}
    (h : slSA k x lo hi mx = some (p,v)) (hp : p) (h1 : Rep E x rx)
    (n1 : lo = none → rlo = none) (s1 : ∀ v,lo = some v → ∃ rv,rlo = some rv ∧ Rep E v rv) (n2 : hi = none → rhi = none) (s2 : ∀ v,hi = some v → ∃ rv,rhi = some rv ∧ Rep E v rv)
    (n3 : mx = none → rmx = none) (s3 : ∀ v,mx = some v → ∃ rv,rmx = some rv ∧ Rep E v rv) :
    ∃ rv,(Instr.sliceAt t rx rlo rhi rmx).run P E.w = .ok rv E.w ∧ Rep E v rv := by
  -- what a read-only slice gives,its bounds found
  have ro : ∀ {nn tt t' : Bool} {xs : List AVal} {l h : Nat} (m : Nat → Nat),Rep E (.sl nn tt xs) rx → szOk k xs → l ≤ h → h ≤ xs.length → (∀ cap,xs.length ≤ cap → h ≤ m cap ∧ m cap ≤ cap) →
      (∀ cap,xs.length ≤ cap → (Instr.sliceBounds true xs.length cap rlo rhi rmx).run P E.w = .ok (l,h,m cap) E.w) → (t' = true → ∀ cap,xs.length ≤ cap → (tt = true → cap = xs.length) → m cap = h) → (t' = true → tt = true ∨ 0 < h) →
      ∃ rv,(Instr.sliceAt t rx rlo rhi rmx).run P E.w = .ok rv E.w ∧ Rep E (.sl nn t' ((xs.take h).drop l)) rv := by
    intro nn tt t' xs l h m hx hz hlh hh hm hb ht' ht2
    rcases hx.inv_sl with ⟨rfl,rfl,rfl⟩ | ⟨b,off,cap,k',rfl,h0,hbb,hle,htt,hkk,hc⟩ | ⟨rfl,rfl,a,rfl⟩
    · have h00 : h = 0 := by simpa using hh
      have l00 : l = 0 := by omega
      subst h00; subst l00
      have hb0 := hb 0 (by simp)
      have hm0 : m 0 = 0 := by have := hm 0 (by simp); omega
      rw [hm0] at hb0
      refine ⟨_,run_sliceAt_S ht hk hb0,?_⟩
      simp
      exact .slnil _
    · refine ⟨_,run_sliceAt_S ht hk (hb cap hle),?_⟩
      by_cases hn : xs = []
      · subst hn
        have h00 : h = 0 := by simpa using hh
        have l00 : l = 0 := by omega
        subst h00; subst l00
        have := sl_sub (E := E) (nn := nn) (t := t') (xs := []) (b := b) (off := off) (k := k') (l := 0) (h := 0) (m := m cap) h0 hbb hkk hc (Nat.le_refl _) (by simp) (by omega) (fun h => ht' h cap hle htt)
        by_cases hc0 : m cap = 0 <;> simpa [hc0,addr_add] using this
      · obtain rfl := sl_size hn hz hkk
        exact sl_sub h0 hbb hkk hc hlh hh (hm cap hle).1 (fun h => ht' h cap hle htt)
    · have h00 : h = 0 := by simpa using hh
      have l00 : l = 0 := by omega
      subst h00; subst l00
      have hb0 := hb 0 (by simp)
      have hm0 : m 0 = 0 := by have := hm 0 (by simp); omega
      rw [hm0] at hb0
      refine ⟨_,run_sliceAt_S ht hk hb0,?_⟩
      cases t' with
      | true => rcases ht2 rfl with h | h
                · cases h
                · omega
      | false => simp; exact .sl0 nn a
  -- what an owned slice gives
  have ow : ∀ {i off len lb l h : Nat} ,Rep E (.own i off len lb k) rx → l ≤ h → h ≤ lb ∨ h ≤ len → (l = 0 ∨ l < lb) →
      (∀ cap,lb ≤ cap → len ≤ cap → (Instr.sliceBounds true len cap rlo rhi rmx).run P E.w = .ok (l,h,cap) E.w) →
      ∃ rv,(Instr.sliceAt t rx rlo rhi rmx).run P E.w = .ok rv E.w ∧ Rep E (.own i (off + l * k) (h - l) (lb - l) k) rv := by
    intro i off len lb l h hx hlh hh hl0 hb
    obtain ⟨hN,⟨hφ,rfl,rfl,rfl,a,rfl⟩ | ⟨r,cap,c,ee,hφ,rfl,hc,hs,hlb,hle⟩⟩ := hx.inv_own
    · have h00 : h = 0 := by omega
      have l00 : l = 0 := by omega
      subst h00; subst l00
      refine ⟨_,run_sliceAt_S ht hk (hb 0 (by simp) (by simp)),?_⟩
      simp
      exact .ownnil _ _ _ hN hφ
    · refine ⟨_,run_sliceAt_S ht hk (hb cap hlb hle),?_⟩
      by_cases hcl : cap = l
      · have l00 : l = 0 := by omega
        subst l00
        rw [if_pos hcl]
        have := Rep.own (E := E) i off h lb k r cap c ee hN hφ hc hs hlb (by omega)
        simpa using this
      · rw [if_neg hcl]
        simp only [Option.map_some,addr_add]
        refine .own _ _ _ _ _ r (cap - l) c ee hN hφ hc ?_ (by omega) (by omega)
        have : cap * k = l * k + (cap - l) * k := by rw [← Nat.add_mul]; congr 1; omega
        omega
  unfold slSA at h
  simp only at h
  split at h
  · rename_i nn tt xs l hl hhi hmx
    simp only [Option.some.injEq,Prod.mk.injEq] at h
    obtain ⟨rfl,rfl⟩ := h
    have hL := LoV.of hl n1 s1
    obtain rfl := n2 (by simpa using hhi)
    obtain rfl := n3 (by simpa using hmx)
    have := ro (t' := tt) (l := l.toNat) (h := xs.length) (fun cap => cap) h1 hp.2.2 (by omega) (Nat.le_refl _) (fun cap h => ⟨h,Nat.le_refl _⟩) (fun cap h => sb1 true _ _ hL E.w hp.1 hp.2.1) (fun h1 cap h2 h3 => h3 h1) (fun h => .inl h)
    simpa using this
  · rename_i nn tt xs l h' hl hhi hmx
    simp only [Option.some.injEq,Prod.mk.injEq] at h
    obtain ⟨rfl,rfl⟩ := h
    have hL := LoV.of hl n1 s1
    obtain ⟨kh,rfl⟩ := bound_of hhi s2
    obtain rfl := n3 (by simpa using hmx)
    exact ro (t' := false) (fun cap => cap) h1 hp.2.2.2 (by omega) (by omega) (fun cap h => ⟨by omega,Nat.le_refl _⟩) (fun cap h => sb2 true _ _ hL E.w hp.1 hp.2.1 (by omega)) (fun h => by cases h) (fun h => by cases h)
  · rename_i nn tt xs l h' m hl hhi hmx
    simp only [Option.some.injEq,Prod.mk.injEq] at h
    obtain ⟨rfl,rfl⟩ := h
    obtain ⟨hp1,hp2,hp3,rfl,hp4,hp5⟩ := hp
    have hL := LoV.of hl n1 s1
    obtain ⟨kh,rfl⟩ := bound_of hhi s2
    obtain ⟨km,rfl⟩ := bound_of hmx s3
    exact ro (t' := true) (fun cap => m.toNat) h1 hp5 (by omega) (by omega) (fun cap h => ⟨by omega,by omega⟩) (fun cap h => sb3 true _ _ hL E.w hp1 hp2 (by omega) (by omega)) (fun _ cap _ _ => rfl) (fun _ => .inr (by omega))
  · rename_i l hl hhi hmx
    simp only [Option.some.injEq,Prod.mk.injEq] at h
    obtain ⟨rfl,rfl⟩ := h
    subst hp
    have hL := LoV.of hl n1 s1
    obtain rfl := n2 (by simpa using hhi)
    obtain rfl := n3 (by simpa using hmx)
    cases h1.inv_val
    exact ⟨_,run_sliceAt_S ht hk (sb1 true 0 0 hL E.w (by omega) (by simp)),by simpa using .val _⟩
  · rename_i l h' hl hhi hmx
    simp only [Option.some.injEq,Prod.mk.injEq] at h
    obtain ⟨rfl,rfl⟩ := h
    obtain ⟨rfl,rfl⟩ := hp
    have hL := LoV.of hl n1 s1
    obtain ⟨kh,rfl⟩ := bound_of hhi s2
    obtain rfl := n3 (by simpa using hmx)
    cases h1.inv_val
    exact ⟨_,run_sliceAt_S ht hk (sb2 true 0 0 hL E.w (by omega) (by omega) (by simp)),by simpa using .val _⟩
  · rename_i l h' m hl hhi hmx
    simp only [Option.some.injEq,Prod.mk.injEq] at h
    obtain ⟨rfl,rfl⟩ := h
    obtain ⟨rfl,rfl,rfl⟩ := hp
    have hL := LoV.of hl n1 s1
    obtain ⟨kh,rfl⟩ := bound_of hhi s2
    obtain ⟨km,rfl⟩ := bound_of hmx s3
    cases h1.inv_val
    exact ⟨_,run_sliceAt_S ht hk (sb3 true 0 0 hL E.w (by omega) (by omega) (by omega) (by simp)),by simpa using .val _⟩
  · rename_i i off len lb k' l hl hhi hmx
    split at h
    case isFalse => cases h
    rename_i hkk
    subst hkk
    have hL := LoV.of hl n1 s1
    obtain rfl := n2 (by simpa using hhi)
    obtain rfl := n3 (by simpa using hmx)
    split at h
    · rename_i hend
      simp only [Option.some.injEq,Prod.mk.injEq] at h
      obtain ⟨rfl,rfl⟩ := h
      obtain ⟨hend,hpos⟩ := hend
      obtain ⟨hN,⟨hφ,rfl,rfl,rfl,a,rfl⟩ | ⟨r,cap,c,ee,hφ,rfl,hc,hs,hlb,hle⟩⟩ := h1.inv_own
      · omega
      · refine ⟨_,run_sliceAt_S ht hk (sb1 true _ _ hL E.w (by omega) (by omega)),?_⟩
        have e0 : ∀ b o cp,Rep E (.sl false false []) (.slice (some ⟨b,o,none⟩) 0 cp) := fun b o cp => .sl false false [] b o cp 1 (fun _ _ => undef) (by decide) (fun h => absurd rfl h) (by simp) (fun h => by cases h) (fun _ _ h => by simp at h) (fun _ _ h => by simp at h) (fun _ _ h => by simp at h)
        have el : len - l.toNat = 0 := by omega
        rw [el]
        split
        · exact e0 _ _ _
        · simp only [Option.map_some,addr_add]
          exact e0 _ _ _
    · simp only [Option.some.injEq,Prod.mk.injEq] at h
      obtain ⟨rfl,rfl⟩ := h
      exact ow h1 (by omega) (.inr (Nat.le_refl _)) (by omega) (fun cap h1 h2 => sb1 true _ _ hL E.w hp.1 hp.2.1)
  · rename_i i off len lb k' l h' hl hhi hmx
    split at h
    case isFalse => cases h
    rename_i hkk
    subst hkk
    simp only [Option.some.injEq,Prod.mk.injEq] at h
    obtain ⟨rfl,rfl⟩ := h
    have hL := LoV.of hl n1 s1
    obtain ⟨kh,rfl⟩ := bound_of hhi s2
    obtain rfl := n3 (by simpa using hmx)
    exact ow h1 (by omega) (.inl (by omega)) (by omega) (fun cap h1 h2 => sb2 true _ _ hL E.w hp.1 hp.2.1 (by omega))
  · cases h
theorem slT_sound {t : TypeId} (ht : P.underlying t = some .string) {x : AVal} {lo hi : Option AVal} {rx : Value} {rlo rhi : Option Value} {p : Prop} {v : AVal}
    (h : slTA x lo hi = some (p,v)) (hp : p) (h1 : Rep E x rx)
    (n1 : lo = none → rlo = none) (s1 : ∀ v,lo = some v → ∃ rv,rlo = some rv ∧ Rep E v rv) (n2 : hi = none → rhi = none) (s2 : ∀ v,hi = some v → ∃ rv,rhi = some rv ∧ Rep E v rv) :
    ∃ rv,(Instr.sliceAt t rx rlo rhi none).run P E.w = .ok rv E.w ∧ Rep E v rv := by
  unfold slTA at h
  split at h
  case h_2 => cases h
  rename_i s
  split at h
  case h_2 => cases h
  rename_i l hh hl hhi
  simp only [Option.some.injEq,Prod.mk.injEq] at h
  obtain ⟨rfl,rfl⟩ := h
  cases h1.inv_val
  have hL := LoV.of hl n1 s1
  have hbd : (Instr.sliceBounds false s.size s.size rlo rhi none).run P E.w = .ok (l.toNat,hh.toNat,s.size) E.w := by
    cases hi with
    | none =>
      obtain rfl := n2 rfl
      simp at hhi
      subst hhi
      have := sb1 (P := P) false s.size s.size hL E.w hp.1 hp.2.1
      simpa using this
    | some u =>
      obtain ⟨kh,rfl⟩ := bound_of (hi := some u) (h := hh) (by simpa using hhi) s2
      exact sb2 false s.size s.size hL E.w hp.1 hp.2.1 hp.2.2
  exact ⟨.string (s.extract l.toNat hh.toNat),by simp [Instr.sliceAt,Instr.slice,run_underlying ht,hbd],.val _⟩
theorem slP_sound {t e : TypeId} {n : Nat} (ht : P.underlying t = some (.array n e)) {k : Nat} (hk : tSize P e = some k) {φ : Nat → Option Nat} {G : Nat → Prop} {H : AHeap} {w : World} (hs : SimH φ G H w)
    {x : AVal} {lo hi : Option AVal} {rx : Value} {rlo rhi : Option Value} {p : Prop} {v : AVal}
    (h : slPA n k x lo hi H = some (p,v)) (hp : p) (h1 : Rep (env φ G H w) x rx)
    (n1 : lo = none → rlo = none) (s1 : ∀ v,lo = some v → ∃ rv,rlo = some rv ∧ Rep (env φ G H w) v rv) (n2 : hi = none → rhi = none) (s2 : ∀ v,hi = some v → ∃ rv,rhi = some rv ∧ Rep (env φ G H w) v rv) :
    ∃ rv,(Instr.sliceAt t rx rlo rhi none).run P w = .ok rv w ∧ Rep (env φ G H w) v rv := by
  unfold slPA at h
  simp only at h
  split at h
  case h_2 => cases h
  rename_i i off l hh hl hhi
  split at h
  case h_2 => cases h
  rename_i cs hi'
  simp only [Option.some.injEq,Prod.mk.injEq] at h
  obtain ⟨rfl,rfl⟩ := h
  obtain ⟨hp1,hp2,hp3,hp4,hp5⟩ := hp
  obtain ⟨r,rfl,hN,hφ⟩ := h1.inv_ptr
  have hb := hs.blk i _ hi'
  have hφ' : φ i = some r := hφ
  simp only [BlkRep,hφ'] at hb
  obtain ⟨c,ee,hc,hcl,_⟩ := hb
  have hL := LoV.of hl n1 s1
  have hbd : (Instr.sliceBounds false n n rlo rhi none).run P w = .ok (l.toNat,hh.toNat,n) w := by
    cases hi with
    | none =>
      obtain rfl := n2 rfl
      simp at hhi
      subst hhi
      have := sb1 (P := P) false n n hL w hp1 hp2
      simpa using this
    | some u =>
      obtain ⟨kh,rfl⟩ := bound_of (hi := some u) (h := hh) (by simpa using hhi) s2
      exact sb2 false n n hL w hp1 hp2 hp3
  refine ⟨.slice (some (if n = l.toNat then ⟨r,off,none⟩ else (⟨r,off,none⟩ : Addr).add (l.toNat * k))) (hh.toNat - l.toNat) (n - l.toNat),by simp [Instr.sliceAt,run_underlying ht,Instr.sureAddr,hbd,run_sizeOf' hk],?_⟩
  have hmul : l.toNat * k + (n - l.toNat) * k = n * k := by rw [← Nat.add_mul]; congr 1; omega
  have hin : off + l.toNat * k + (n - l.toNat) * k ≤ c.size := by omega
  have := Rep.own (E := env φ G H w) i (off + l.toNat * k) (hh.toNat - l.toNat) (n - l.toNat) k r (n - l.toNat) c ee hN hφ hc hin (Nat.le_refl _) (by omega)
  by_cases hnl : n = l.toNat
  · have hl0 : l.toNat = 0 := by omega
    rw [hl0] at this ⊢
    have hn0 : n = 0 := by omega
    simpa [hn0] using this
  · rw [if_neg hnl,addr_add]; exact this
end ops
end Go.Abs
