/- Heaps told by what lies where: all blocks that a function was given stay as they are or are told anew; iterators whose rounds change what is their caller's; Heaps told by what lies where: some blocks are told less exactly,some are let go. -/
import Derived.Test.YtlonaefihjdkpaaAS
namespace Go.Abs
open AVal
theorem vid_mono {N N' : Nat} (hN : N ≤ N') : ∀ (d : Nat) (v : AVal),vid N d v = true → vid N' d v = true
  | 0,v,h => by cases v <;> first | rfl | (exact absurd h (by simp [vid]))
  | d + 1,v,h => by
    have all : ∀ xs : List AVal,xs.all (vid N d) = true → xs.all (vid N' d) = true := fun xs hx =>
      List.all_eq_true.2 fun u hu => vid_mono hN d u (List.all_eq_true.1 hx u hu)
    cases v with
    | any => rfl
    | val v => rfl
    | sl nn t xs => exact h
    | rp cs => exact h
    | own i off len lb k => simp only [vid,decide_eq_true_eq] at h ⊢; omega
    | ptr i off => simp only [vid,decide_eq_true_eq] at h ⊢; omega
    | yld i => simp only [vid,decide_eq_true_eq] at h ⊢; omega
    | mp i => simp only [vid,decide_eq_true_eq] at h ⊢; omega
    | fn f a b => simp only [vid,Bool.and_eq_true] at h ⊢; exact ⟨all a h.1,all b h.2⟩
    | agg cs => simp only [vid,Bool.or_eq_true] at h ⊢; exact h.imp id (all cs)
    | tup vs => exact all vs h
def blkN (LP : Nat → Fr → Prop) (N i : Nat) : Blk → Prop
  | .hole => False
  | .dead => True
  | .cells cs => (bndL 0 cs || cs.all (vid N 2)) = true
  | .defs => True
  | .map es => (es.all fun p => p.1.bnd 0 && p.2.bnd 0) = true
  | .iter m _ _ => m < N
  | .loop _ _ fr _ _ _ _ => LP i fr
theorem blkN.mono {LP LP' : Nat → Fr → Prop} {N N' i : Nat} (hN : N ≤ N') (hL : ∀ i fr,LP i fr → LP' i fr) {b : Blk} (h : blkN LP N i b) : blkN LP' N' i b := by
  cases b with
  | hole => exact h
  | dead => trivial
  | defs => trivial
  | map es => exact h
  | iter m n seen => exact Nat.lt_of_lt_of_le h hN
  | loop st pend fr n ps as bd => exact hL _ _ h
  | cells cs =>
    have h : (bndL 0 cs || cs.all (vid N 2)) = true := h
    show (bndL 0 cs || cs.all (vid N' 2)) = true
    rw [Bool.or_eq_true] at h ⊢
    exact h.imp id fun h => List.all_eq_true.2 fun u hu => vid_mono hN 2 u (List.all_eq_true.1 h u hu)
def HOk (LP : Nat → Fr → Prop) (H : AHeap) : Prop := ∀ (i : Nat) (b : Blk),H[i]? = some b → blkN LP H.length i b
def LPb (B : Nat) (i : Nat) (fr : Fr) : Prop := i < B ∧ (fr.all fun p => p.2.bnd B) = true
theorem HOk.mono {LP LP' : Nat → Fr → Prop} {H : AHeap} (h : HOk LP H) (hL : ∀ i fr,LP i fr → LP' i fr) : HOk LP' H := fun i b hi => (h i b hi).mono (Nat.le_refl _) hL
theorem bnd_mono' {N N' : Nat} (hN : N ≤ N') : (∀ v : AVal,v.bnd N = true → v.bnd N' = true) ∧ ∀ l : List AVal,bndL N l = true → bndL N' l = true := by
  have key : ∀ (m : Nat),(∀ v : AVal,SizeOf.sizeOf v ≤ m → v.bnd N = true → v.bnd N' = true) ∧ ∀ l : List AVal,SizeOf.sizeOf l ≤ m → bndL N l = true → bndL N' l = true := by
    intro m
    induction m with
    | zero =>
      refine ⟨fun v hv => ?_,fun l hl => ?_⟩
      · cases v <;> simp at hv
      · cases l <;> simp at hl
    | succ m ih =>
      refine ⟨fun v hv h => ?_,fun l hl h => ?_⟩
      · cases v with
        | any => rfl
        | val v => rfl
        | sl nn t xs => simp only [AVal.bnd,AVal.sl.sizeOf_spec] at h hv ⊢; exact ih.2 xs (by omega) h
        | rp xs => simp only [AVal.bnd,AVal.rp.sizeOf_spec] at h hv ⊢; exact ih.2 xs (by omega) h
        | own i off len lb k => simp only [AVal.bnd,decide_eq_true_eq] at h ⊢; omega
        | ptr i off => simp only [AVal.bnd,decide_eq_true_eq] at h ⊢; omega
        | yld i => simp only [AVal.bnd,decide_eq_true_eq] at h ⊢; omega
        | mp i => simp only [AVal.bnd,decide_eq_true_eq] at h ⊢; omega
        | fn f a b => simp only [AVal.bnd,AVal.fn.sizeOf_spec,Bool.and_eq_true] at h hv ⊢; exact ⟨ih.2 a (by omega) h.1,ih.2 b (by omega) h.2⟩
        | agg xs => simp only [AVal.bnd,AVal.agg.sizeOf_spec] at h hv ⊢; exact ih.2 xs (by omega) h
        | tup xs => simp only [AVal.bnd,AVal.tup.sizeOf_spec] at h hv ⊢; exact ih.2 xs (by omega) h
      · cases l with
        | nil => rfl
        | cons a r => simp only [bndL,List.cons.sizeOf_spec,Bool.and_eq_true] at h hl ⊢; exact ⟨ih.1 a (by omega) h.1,ih.2 r (by omega) h.2⟩
  exact ⟨fun v => (key (SizeOf.sizeOf v)).1 v (Nat.le_refl _),fun l => (key (SizeOf.sizeOf l)).2 l (Nat.le_refl _)⟩
theorem LPb.mono {B B' : Nat} (hB : B ≤ B') {i : Nat} {fr : Fr} (h : LPb B i fr) : LPb B' i fr :=
  ⟨Nat.lt_of_lt_of_le h.1 hB,List.all_eq_true.2 fun p hp => (bnd_mono' hB).1 _ (List.all_eq_true.1 h.2 p hp)⟩
section
variable {LP : Nat → Fr → Prop} {H : AHeap}
theorem HOk.set (h : HOk LP H) {i : Nat} {b : Blk} (hb : blkN LP H.length i b) : HOk LP (H.set i b) := fun j c hj => by
  rw [List.length_set]
  rw [List.getElem?_set] at hj
  split at hj
  · rename_i hij
    subst hij
    split at hj
    · cases hj; exact hb
    · cases hj
  · exact h j c hj
theorem HOk.push (h : HOk LP H) {b : Blk} (hb : blkN LP (H.length + 1) H.length b) : HOk LP (H ++ [b]) := fun j c hj => by
  rw [List.length_append,List.length_singleton]
  rw [List.getElem?_append] at hj
  split at hj
  · exact (h j c hj).mono (by omega) fun _ _ h => h
  · rename_i hge
    have h0 : j - H.length = 0 := by
      by_cases h0 : j - H.length = 0
      · exact h0
      · rw [List.getElem?_eq_none (by simp; omega)] at hj; cases hj
    rw [h0] at hj
    simp at hj
    subst hj
    rwa [show j = H.length by omega]
theorem HOk.nil : HOk LP [] := fun i b h => by simp at h
theorem HOk.cells (h : HOk LP H) {i : Nat} {cs : List AVal} (hi : H[i]? = some (.cells cs)) : (bndL 0 cs || cs.all (vid H.length 2)) = true := h i _ hi
theorem Wk.ok {B : Nat} (h : HOk LP H) (hL : ∀ i fr,LP i fr → LPb B i fr) (hB : B ≤ H.length) {fr fr' : Fr} (hf : ∀ p ∈ fr',fr.get p.1 = p.2 ∧ vid H.length 3 p.2 = true) {ms : List Nat} (hm : ∀ m ∈ ms,m < H.length) : Wk B ms (idρ H.length) fr H fr' H :=
  ⟨idρ_len _,fun i hi => idρ_get (by omega),(imgs_id H 0).2,by
    have key : ∀ (L : AHeap) (i : Nat),(∀ (k : Nat) b,L[k]? = some b → H[i + k]? = some b) → hle B H (idρ H.length) (imgs (idρ H.length) 0 H) i L := by
      intro L
      induction L with
      | nil => intro i _; trivial
      | cons b r ih =>
        intro i hk
        have h0 := hk 0 b rfl
        rw [Nat.add_zero] at h0
        have hi := (List.getElem?_eq_some_iff.1 h0).1
        have hb := h i b h0
        refine ⟨?_,ih (i + 1) fun k c hc => by have := hk (k + 1) c (by simpa using hc); rw [show i + 1 + k = i + (k + 1) by omega]; exact this⟩
        cases b with
        | hole => exact hb
        | dead => trivial
        | defs => exact ⟨idρ_get hi,h0⟩
        | map es => exact ⟨hb,by simp only [idρ_get hi]; exact h0⟩
        | iter m n seen => exact ⟨by rw [idρ_len]; exact hb,by simp only [idρ_get hi,idρ_get hb]; exact h0⟩
        | loop st pend fr n ps as bd =>
          have := hL _ _ hb
          exact ⟨this.1,h0,fr_bnd this.2⟩
        | cells cs =>
          simp only [idρ_get hi,h0]
          have hb : (bndL 0 cs || cs.all (vid H.length 2)) = true := hb
          rw [Bool.or_eq_true] at hb
          refine hb.imp (fun h => ⟨rfl,h⟩) fun h => ?_
          have all : ∀ xs : List AVal,xs.all (vid H.length 2) = true → vle.vleL H (idρ H.length) (imgs (idρ H.length) 0 H) 2 xs xs := by
            intro xs
            induction xs with
            | nil => intro _; trivial
            | cons a r ih =>
              intro h
              rw [List.all_cons,Bool.and_eq_true] at h
              exact ⟨vid_vle 2 a h.1,ih h.2⟩
          exact all cs h
    exact key H 0 fun k b hk => by rw [Nat.zero_add]; exact hk,fle_id hf,fun m hm' => ⟨idρ_get (hm m hm'),hm m hm'⟩⟩
end
section
variable {x : Cx} {Q : QT} {ks : List Kont} {fr : Fr} {H : AHeap} {LP : Nat → Fr → Prop}
theorem roundN (h : HOk LP H) (hL : ∀ i fr,LP i fr → LPb x.B i fr) (hB : x.B ≤ H.length) {ι : Type} {St : ι → Fr × AHeap} {μ : ι → Nat} {i : ι} (j : ι) (h1 : μ j < μ i) (hH : H = (St j).2)
    (hf : ∀ p ∈ (St j).1,fr.get p.1 = p.2 ∧ vid H.length 3 p.2 = true) : KQ x Q .norm (.loop [] St μ i :: ks) fr H [] := by
  subst hH
  exact KQ_round rfl j (idρ _) h1 (Wk.ok h hL hB hf fun m hm => by cases hm)
theorem leafN0 {B : Nat} {e : Ex} {R : AVal → AHeap → Prop} (h : HOk LP H) (hL : ∀ i fr,LP i fr → LPb B i fr) (hB : B ≤ H.length) (hR : R (.tup []) H) (he : e = .norm ∨ e = .ret := by simp) : retA B [] R e fr H [] := by
  refine ⟨he,?_⟩
  simp only [killM,resL]
  exact ⟨trivial,idρ _,.tup [],H,Wk.ok h hL hB (fun p hp => by simp at hp; subst hp; exact ⟨rfl,rfl⟩) (fun m hm => by cases hm),hR⟩
end
def appB := appA
theorem S_appB {x : Cx} {Q : QT} {ks : List Kont} {fr : Fr} {H : AHeap} {ms : List Nat} {d : Option Nat} (k b : Nat) (s a : IOpd) {l : List IIns} : S x Q d (.append k b s a) l ks fr H ms = alA x Q (appB k b (s.ev fr) (a.ev fr) H H.length fun H b => H ++ [b]) k b (s.ev fr) (a.ev fr) d l ks fr H ms := rfl
theorem Wk.one {H : AHeap} {fr fr' : Fr} {cs cs' : List AVal} {j : Nat} (h : H[j]? = some (.cells cs)) (he : cs = cs') (hb : bndL 0 cs' = true) (hf : fle H [some j] [j] fr fr') : Wk 0 [] [some j] fr H fr' [.cells cs'] :=
  Wk.mk0 rfl (by simp [imgs,Blk.alive]) (by simp [hle,csle,h,he,hb]) (by simpa [imgs,Blk.alive] using hf)
theorem Spec.wk {P : Program} {f : FuncId} {args : List AVal} {H : AHeap} {R R' : AVal → AHeap → Prop} (h : Spec P f args H R)
    (hk : ∀ v H1,R v H1 → ∃ ρ v' H2,Wk H.length [] ρ [(0,v)] H1 [(0,v')] H2 ∧ R' v' H2) : Spec P f args H R' :=
  ⟨h.1,fun φ G w rargs hs hr => (h.2 φ G w rargs hs hr).mono fun e w' ⟨rv,he,v,H1,φ1,hR,h3,h4,h5⟩ => by
    obtain ⟨ρ,v',H2,hwk,hR'⟩ := hk v H1 hR
    obtain ⟨φ2,k1,k2,k3⟩ := hwk.rep h3 (h4.len (Nat.le_refl _)) h5
    exact ⟨rv,he,v',H2,φ2,hR',k1,h4.trans k2,k3⟩⟩
theorem Spec.frozen {P : Program} {f : FuncId} {args : List AVal} {n lb k : Nat} {cs xs : List AVal} (h : Spec P f args [] fun v H' => v = .own 0 0 n lb k ∧ H' = [.cells cs]) (hk : 0 < k) (hb : bndL 0 xs = true) (hn : xs.length = n) (hz : szOk k xs) (hc : cs.take (n * k) = xs.flatMap AVal.cells) :
    Spec P f args [] fun v H' => H' = [] ∧ v = .sl false false xs :=
  h.wk fun v H1 ⟨h1,h2⟩ => by
    subst h1 h2
    exact ⟨[],.sl false false xs,[],Wk.nil ⟨⟨hb,rfl,rfl,rfl,hk,by simp,hn,hz,hc⟩,trivial⟩,rfl,rfl⟩
def run {σ α : Type} (go : σ → α → Bool) (upd : σ → α → σ) : σ → List α → σ × Bool
  | s,[] => (s,true)
  | s,x :: l => if go s x then run go upd (upd s x) l else (upd s x,false)
def AheadOk {σ α : Type} (go : σ → α → Bool) (upd : σ → α → σ) (dom : σ → α → Prop) (s : σ) (l : List α) : Prop := ∀ (pre : List α) (x : α) (post : List α),l = pre ++ x :: post → (run go upd s pre).2 = true → dom (run go upd s pre).1 x
theorem AheadOk.mem {σ α : Type} {go : σ → α → Bool} {upd : σ → α → σ} {dom : α → Prop} {s : σ} {l : List α} (h : ∀ x ∈ l,dom x) : AheadOk go upd (fun _ => dom) s l := fun pre x post he _ => h x (by rw [he]; simp)
structure Cl where
  Γ : Type
  σ : Type
  val : Γ → σ
  ok : Γ → AHeap → Prop
  live : Γ → Prop
  mine : Γ → Nat → Prop
  go : σ → List Int → Bool
  upd : σ → List Int → σ
  frame : ∀ γ H H',ok γ H → (∀ j,mine γ j → H'[j]? = H[j]?) → ok γ H'
  lt : ∀ γ H j,ok γ H → mine γ j → j < H.length
structure Cl.To (c : Cl) (b : Nat) (γ : c.Γ) (H : AHeap) (γ' : c.Γ) (H' : AHeap) : Prop where
  ok : c.ok γ' H'
  hok : ∀ LP,HOk LP H → HOk LP H'
  len : H.length ≤ H'.length
  kept : ∀ j,j < b → ¬ c.mine γ j → H'[j]? = H[j]?
  own : ∀ j,c.mine γ' j → c.mine γ j ∨ b ≤ j
theorem Cl.To.trans {c : Cl} {b : Nat} {γ γ1 γ2 : c.Γ} {H H1 H2 : AHeap} (h : c.To b γ H γ1 H1) (h' : c.To b γ1 H1 γ2 H2) : c.To b γ H γ2 H2 :=
  ⟨h'.ok,fun LP h0 => h'.hok LP (h.hok LP h0),Nat.le_trans h.len h'.len,fun j hj hm => by
    rw [h'.kept j hj fun hm' => (h.own j hm').elim hm fun hb => by omega]; exact h.kept j hj hm,fun j hj => (h'.own j hj).elim (h.own j) .inr⟩
theorem Cl.To.refl {c : Cl} {b : Nat} {γ : c.Γ} {H : AHeap} (h : c.ok γ H) : c.To b γ H γ H := ⟨h,fun _ h => h,Nat.le_refl _,fun _ _ _ => rfl,fun _ h => .inl h⟩
theorem Cl.To.le {c : Cl} {b b' : Nat} {γ γ' : c.Γ} {H H' : AHeap} (h : c.To b γ H γ' H') (hb : b' ≤ b) : c.To b' γ H γ' H' :=
  ⟨h.ok,h.hok,h.len,fun j hj => h.kept j (by omega),fun j hj => (h.own j hj).imp id fun h => by omega⟩
end Go.Abs
namespace Go.Abs
open AVal
end Go.Abs
