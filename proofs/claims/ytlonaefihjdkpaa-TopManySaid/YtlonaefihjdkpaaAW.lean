/- The same demands with what follows told as data: for walking a function's code by rewriting. -/
import Derived.Test.YtlonaefihjdkpaaAF
namespace Go.Abs
open AVal
inductive Kont : Type 1
  | seq (b : ICode)
  | block (id : Nat)
  | canon (ds : List Nat) (fr0 : Fr)
  | loop (ms : List Nat) {ι : Type} (St : ι → Fr × AHeap) (μ : ι → Nat) (i : ι)
structure Cx where
  P : Program
  B : Nat
  n : Nat
  rg : Bool
abbrev QT := Ex → Fr → AHeap → List Nat → Prop
def denote (x : Cx) (Q : QT) : List Kont → QT
  | [] => Q
  | .seq b :: ks => thenQ (fun fr H ms => iwp x.P x.B x.n x.rg b fr H ms (denote x Q ks)) (denote x Q ks)
  | .block id :: ks => blockQ id (denote x Q ks)
  | .canon ds fr0 :: ks => fun e fr H ms => denote x Q ks e (canon ds fr0 fr) H ms
  | .loop ms St μ i :: ks => ILoopK x.B ms St μ i (denote x Q ks)
def W (x : Cx) (Q : QT) (c : ICode) (ks : List Kont) (fr : Fr) (H : AHeap) (ms : List Nat) : Prop := iwp x.P x.B x.n x.rg c fr H ms (denote x Q ks)
def KQ (x : Cx) (Q : QT) (e : Ex) (ks : List Kont) (fr : Fr) (H : AHeap) (ms : List Nat) : Prop := denote x Q ks e fr H ms
def O (x : Cx) (Q : QT) (l : List IIns) (ks : List Kont) (fr : Fr) (H : AHeap) (ms : List Nat) : Prop := iops x.P l fr H fun fr H => KQ x Q .norm ks fr H ms
def D (x : Cx) (Q : QT) (base : Nat) (pl : DPlan) (ks : List Kont) (fr : Fr) (H : AHeap) (ms : List Nat) : Prop := runP x.P base pl fr H fun fr H => KQ x Q .norm ks fr H ms
def S (x : Cx) (Q : QT) (d : Option Nat) (op : IOp) (l : List IIns) (ks : List Kont) (fr : Fr) (H : AHeap) (ms : List Nat) : Prop := istep x.P ⟨d,op,none⟩ fr H fun fr H => O x Q l ks fr H ms
def SD (x : Cx) (Q : QT) (base id md : Nat) (d : Option Nat) (op : IOp) (l : DPlan) (ks : List Kont) (fr : Fr) (H : AHeap) (ms : List Nat) : Prop := istepD x.P id md ⟨d,op,none⟩ fr H fun fr H => D x Q base l ks fr H ms
def SE (x : Cx) (Q : QT) (base md : Nat) (d : Option Nat) (op : IOp) (l : DPlan) (ks : List Kont) (fr : Fr) (H : AHeap) (ms : List Nat) : Prop := earlyD x.P md ⟨d,op,none⟩ fr H fun fr H => D x Q base l ks fr H ms
def CallK (x : Cx) (Q : QT) (fv : AVal) (args : List AVal) (d : Option Nat) (l : List IIns) (ks : List Kont) (fr : Fr) (H : AHeap) (ms : List Nat) : Prop := CallV x.P fv args H fun v H' => O x Q l ks (fr.putd d v) H' ms
def CallKD (early : Bool) (x : Cx) (Q : QT) (base md : Nat) (fv : AVal) (args : List AVal) (d : Option Nat) (l : DPlan) (ks : List Kont) (fr : Fr) (H : AHeap) (ms : List Nat) : Prop :=
  if md = 0 then CallV x.P fv args H fun v H' => D x Q base l ks (fr.putd d v) H' ms
  else (∃ v,(∀ H',(md = 1 → Fills H H') → CallV x.P fv args H' fun v' H'' => v' = v ∧ H'' = H') ∧ D x Q base l ks (fr.putd d v) H ms) ∨
    early = false ∧ CallV x.P fv args H fun v H' => Fills H H' ∧ D x Q base l ks (fr.putd d v) H' ms
def aq (x : Cx) (Q : QT) (q : Option (Prop × AVal)) (d : Option Nat) (l : List IIns) (ks : List Kont) (fr : Fr) (H : AHeap) (ms : List Nat) : Prop :=
  match q with
  | some (p,v) => p ∧ O x Q l ks (fr.putd d v) H ms
  | none => False
def aa (x : Cx) (Q : QT) (a : Option (Prop × (Nat → AVal) × List AVal)) (d : Option Nat) (l : List IIns) (ks : List Kont) (fr : Fr) (H : AHeap) (ms : List Nat) : Prop :=
  match a with
  | some (p,mk,cs) => p ∧ O x Q l ks (fr.putd d (mk H.length)) (H ++ [.cells cs]) ms
  | none => False
def al (x : Cx) (Q : QT) (o : Option (Prop × AVal × AHeap)) (d : Option Nat) (l : List IIns) (ks : List Kont) (fr : Fr) (_ : AHeap) (ms : List Nat) : Prop :=
  match o with
  | some (p,v,H') => p ∧ O x Q l ks (fr.putd d v) H' ms
  | none => False
def alA (x : Cx) (Q : QT) (o : Option (Prop × AVal × AHeap)) (k b : Nat) (s a : AVal) (d : Option Nat) (l : List IIns) (ks : List Kont) (fr : Fr) (H : AHeap) (ms : List Nat) : Prop :=
  match o with
  | some (p,v,H') => p ∧ O x Q l ks (fr.putd d v) H' ms
  | none => app2A k b s a H fun v H' => O x Q l ks (fr.putd d v) H' ms
def aqd (x : Cx) (Q : QT) (base : Nat) (q : Option (Prop × AVal)) (d : Option Nat) (l : DPlan) (ks : List Kont) (fr : Fr) (H : AHeap) (ms : List Nat) : Prop :=
  match q with
  | some (p,v) => p ∧ D x Q base l ks (fr.putd d v) H ms
  | none => False
def aad (x : Cx) (Q : QT) (base id : Nat) (a : Option (Prop × (Nat → AVal) × List AVal)) (d : Option Nat) (l : DPlan) (ks : List Kont) (fr : Fr) (H : AHeap) (ms : List Nat) : Prop :=
  match a with
  | some (p,mk,cs) => p ∧ H[id]? = some .hole ∧ D x Q base l ks (fr.putd d (mk id)) (H.set id (.cells cs)) ms
  | none => False
def ald (x : Cx) (Q : QT) (base id : Nat) (app : Bool) (o : Option (Prop × AVal × AHeap)) (d : Option Nat) (l : DPlan) (ks : List Kont) (fr : Fr) (H : AHeap) (ms : List Nat) : Prop :=
  match o with
  | some (p,v,H') => p ∧ (app = true → H[id]? = some .hole) ∧ D x Q base l ks (fr.putd d v) H' ms
  | none => False
def ape (x : Cx) (Q : QT) (base : Nat) (pr : Prop) (q : Option (Prop × AVal)) (d : Option Nat) (l : DPlan) (ks : List Kont) (fr : Fr) (H : AHeap) (ms : List Nat) : Prop :=
  match q with
  | some (p,v) => p ∧ pr ∧ D x Q base l ks (fr.putd d v) H ms
  | none => False
def gd (s : AVal) (b : Bool) (yes no no' : Prop) : Prop :=
  match s with
  | .val (.bool t) => (t = b → yes) ∧ (t = (!b) → no)
  | .val (.tuple _) => no'
  | _ => False
section
variable {x : Cx} {Q : QT} {ks : List Kont} {fr : Fr} {H : AHeap} {ms : List Nat}
theorem W_skip : W x Q .skip ks fr H ms = KQ x Q .norm ks fr H ms := rfl
theorem W_keep {kk : List Nat} {a : ICode} : W x Q (.keep kk a) ks fr H ms = W x Q a ks (fr.norm kk) H ms := rfl
theorem W_view {a : ICode} (ρ : List (Option Nat)) (fr' : Fr) (H' : AHeap) (hw : Wk x.B ms ρ fr H fr' H') (h : W x Q a ks fr' H' ms) : W x Q (.view a) ks fr H ms := ⟨ρ,fr',H',hw,h⟩
theorem W_seq {a b : ICode} : W x Q (.seq a b) ks fr H ms = W x Q a (.seq b :: ks) fr H ms := rfl
theorem W_scope {a : ICode} : W x Q (.scope a) ks fr H ms = W x Q a ks fr H ms := rfl
theorem W_block {id : Nat} {a : ICode} : W x Q (.block id a) ks fr H ms = W x Q a (.block id :: ks) fr H ms := rfl
theorem W_cond {c : IOpd} {a b : ICode} : W x Q (.cond c a b) ks fr H ms = icond (c.ev fr) (W x Q a ks fr H ms) (W x Q b ks fr H ms) := rfl
theorem W_exit {id : Nat} : W x Q (.exit id) ks fr H ms = KQ x Q (.exit id) ks fr H ms := rfl
theorem W_ret : W x Q .ret ks fr H ms = KQ x Q .ret ks fr H ms := rfl
theorem W_ops {l : List IIns} : W x Q (.ops l) ks fr H ms = O x Q l ks fr H ms := rfl
theorem W_draw {m : Nat} {ds : List Nat} {pl : DPlan} : W x Q (.draw m ds pl) ks fr H ms = D x Q H.length pl (.canon ds fr :: ks) fr (H ++ List.replicate m .hole) ms := rfl
theorem KQ_nil {e : Ex} : KQ x Q e [] fr H ms = Q e fr H ms := rfl
theorem KQ_norm_seq {b : ICode} : KQ x Q .norm (.seq b :: ks) fr H ms = W x Q b ks fr H ms := rfl
theorem KQ_exit_seq {b : ICode} {i : Nat} : KQ x Q (.exit i) (.seq b :: ks) fr H ms = KQ x Q (.exit i) ks fr H ms := rfl
theorem KQ_ret_seq {b : ICode} : KQ x Q .ret (.seq b :: ks) fr H ms = KQ x Q .ret ks fr H ms := rfl
theorem KQ_norm_block {id : Nat} : KQ x Q .norm (.block id :: ks) fr H ms = KQ x Q .norm ks fr H ms := rfl
theorem KQ_canon {e : Ex} {ds : List Nat} {fr0 : Fr} : KQ x Q e (.canon ds fr0 :: ks) fr H ms = KQ x Q e ks (canon ds fr0 fr) H ms := rfl
theorem KQ_ret_block {id : Nat} : KQ x Q .ret (.block id :: ks) fr H ms = KQ x Q .ret ks fr H ms := rfl
theorem KQ_exit_block {id i : Nat} : KQ x Q (.exit i) (.block id :: ks) fr H ms = if i = id then KQ x Q .norm ks fr H ms else KQ x Q (.exit i) ks fr H ms := rfl
theorem KQ_exit_loop {ms' : List Nat} {ι : Type} {St : ι → Fr × AHeap} {μ : ι → Nat} {j : ι} {i : Nat} : KQ x Q (.exit i) (.loop ms' St μ j :: ks) fr H ms = KQ x Q (.exit i) ks fr H ms := rfl
theorem KQ_ret_loop {ms' : List Nat} {ι : Type} {St : ι → Fr × AHeap} {μ : ι → Nat} {j : ι} : KQ x Q .ret (.loop ms' St μ j :: ks) fr H ms = KQ x Q .ret ks fr H ms := rfl
theorem KQ_round {ms' : List Nat} {ι : Type} {St : ι → Fr × AHeap} {μ : ι → Nat} {i : ι} (hm : ms = ms') (j : ι) (ρ : List (Option Nat)) (h1 : μ j < μ i) (h2 : Wk x.B ms' ρ fr H (St j).1 (St j).2) : KQ x Q .norm (.loop ms' St μ i :: ks) fr H ms := ⟨hm,j,ρ,h1,h2⟩
theorem W_loop {b : ICode} {ι : Type} (St : ι → Fr × AHeap) (μ : ι → Nat) (i : ι) (ρ : List (Option Nat)) (h1 : Wk x.B ms ρ fr H (St i).1 (St i).2) (h2 : ∀ i,W x Q b (.loop ms St μ i :: ks) (St i).1 (St i).2 ms) : W x Q (.loop b) ks fr H ms := ⟨ι,St,μ,⟨i,ρ,h1⟩,h2⟩
theorem O_nil : O x Q [] ks fr H ms = KQ x Q .norm ks fr H ms := rfl
theorem O_cons {d : Option Nat} {op : IOp} {l : List IIns} : O x Q (⟨d,op,none⟩ :: l) ks fr H ms = S x Q d op l ks fr H ms := rfl
theorem S_call {d : Option Nat} {f : IOpd} {args : List IOpd} {l : List IIns} : S x Q d (.call f args) l ks fr H ms = CallK x Q (f.ev fr) (args.map (·.ev fr)) d l ks fr H ms := rfl
theorem S_mv {d : Option Nat} (a : IOpd) {l : List IIns} : S x Q d (.mv a) l ks fr H ms = aq x Q (some (True,a.ev fr)) d l ks fr H ms := rfl
theorem SE_mv {base md : Nat} {d : Option Nat} (a : IOpd) {l : DPlan} : SE x Q base md d (.mv a) l ks fr H ms = ape x Q base (1 < md → rdFree (.mv a) fr = true) (some (True,a.ev fr)) d l ks fr H ms := rfl
theorem SD_mv {base id md : Nat} {d : Option Nat} (a : IOpd) {l : DPlan} : SD x Q base id md d (.mv a) l ks fr H ms = aqd x Q base (some (True,a.ev fr)) d l ks fr H ms := rfl
theorem S_pick {d : Option Nat} (c a b : IOpd) {l : List IIns} : S x Q d (.pick c a b) l ks fr H ms = aq x Q (pickA (c.ev fr) (a.ev fr) (b.ev fr)) d l ks fr H ms := rfl
theorem SE_pick {base md : Nat} {d : Option Nat} (c a b : IOpd) {l : DPlan} : SE x Q base md d (.pick c a b) l ks fr H ms = ape x Q base (1 < md → rdFree (.pick c a b) fr = true) (pickA (c.ev fr) (a.ev fr) (b.ev fr)) d l ks fr H ms := rfl
theorem SD_pick {base id md : Nat} {d : Option Nat} (c a b : IOpd) {l : DPlan} : SD x Q base id md d (.pick c a b) l ks fr H ms = aqd x Q base (pickA (c.ev fr) (a.ev fr) (b.ev fr)) d l ks fr H ms := rfl
theorem S_bin {d : Option Nat} (o : BinOp) (a b : IOpd) {l : List IIns} : S x Q d (.bin o a b) l ks fr H ms = aq x Q (binA o (a.ev fr) (b.ev fr)) d l ks fr H ms := rfl
theorem SE_bin {base md : Nat} {d : Option Nat} (o : BinOp) (a b : IOpd) {l : DPlan} : SE x Q base md d (.bin o a b) l ks fr H ms = ape x Q base (1 < md → rdFree (.bin o a b) fr = true) (binA o (a.ev fr) (b.ev fr)) d l ks fr H ms := rfl
theorem SD_bin {base id md : Nat} {d : Option Nat} (o : BinOp) (a b : IOpd) {l : DPlan} : SD x Q base id md d (.bin o a b) l ks fr H ms = aqd x Q base (binA o (a.ev fr) (b.ev fr)) d l ks fr H ms := rfl
theorem S_eqb {d : Option Nat} (g : Bool) (a b : IOpd) {l : List IIns} : S x Q d (.eqb g a b) l ks fr H ms = aq x Q (eqbA g (a.ev fr) (b.ev fr)) d l ks fr H ms := rfl
theorem SE_eqb {base md : Nat} {d : Option Nat} (g : Bool) (a b : IOpd) {l : DPlan} : SE x Q base md d (.eqb g a b) l ks fr H ms = ape x Q base (1 < md → rdFree (.eqb g a b) fr = true) (eqbA g (a.ev fr) (b.ev fr)) d l ks fr H ms := rfl
theorem SD_eqb {base id md : Nat} {d : Option Nat} (g : Bool) (a b : IOpd) {l : DPlan} : SD x Q base id md d (.eqb g a b) l ks fr H ms = aqd x Q base (eqbA g (a.ev fr) (b.ev fr)) d l ks fr H ms := rfl
theorem S_eqv {d : Option Nat} (g : Bool) (n : Nat) (a b : IOpd) {l : List IIns} : S x Q d (.eqv g n a b) l ks fr H ms = aq x Q (eqvA g n (a.ev fr) (b.ev fr)) d l ks fr H ms := rfl
theorem SE_eqv {base md : Nat} {d : Option Nat} (g : Bool) (n : Nat) (a b : IOpd) {l : DPlan} : SE x Q base md d (.eqv g n a b) l ks fr H ms = ape x Q base (1 < md → rdFree (.eqv g n a b) fr = true) (eqvA g n (a.ev fr) (b.ev fr)) d l ks fr H ms := rfl
theorem SD_eqv {base id md : Nat} {d : Option Nat} (g : Bool) (n : Nat) (a b : IOpd) {l : DPlan} : SD x Q base id md d (.eqv g n a b) l ks fr H ms = aqd x Q base (eqvA g n (a.ev fr) (b.ev fr)) d l ks fr H ms := rfl
theorem S_eqs {d : Option Nat} (g : Bool) (a b : IOpd) {l : List IIns} : S x Q d (.eqs g a b) l ks fr H ms = aq x Q (eqsA g (a.ev fr) (b.ev fr)) d l ks fr H ms := rfl
theorem SE_eqs {base md : Nat} {d : Option Nat} (g : Bool) (a b : IOpd) {l : DPlan} : SE x Q base md d (.eqs g a b) l ks fr H ms = ape x Q base (1 < md → rdFree (.eqs g a b) fr = true) (eqsA g (a.ev fr) (b.ev fr)) d l ks fr H ms := rfl
theorem SD_eqs {base id md : Nat} {d : Option Nat} (g : Bool) (a b : IOpd) {l : DPlan} : SD x Q base id md d (.eqs g a b) l ks fr H ms = aqd x Q base (eqsA g (a.ev fr) (b.ev fr)) d l ks fr H ms := rfl
theorem S_eqp {d : Option Nat} (g : Bool) (a : IOpd) {l : List IIns} : S x Q d (.eqp g a) l ks fr H ms = aq x Q (eqpA g (a.ev fr)) d l ks fr H ms := rfl
theorem SE_eqp {base md : Nat} {d : Option Nat} (g : Bool) (a : IOpd) {l : DPlan} : SE x Q base md d (.eqp g a) l ks fr H ms = ape x Q base (1 < md → rdFree (.eqp g a) fr = true) (eqpA g (a.ev fr)) d l ks fr H ms := rfl
theorem SD_eqp {base id md : Nat} {d : Option Nat} (g : Bool) (a : IOpd) {l : DPlan} : SD x Q base id md d (.eqp g a) l ks fr H ms = aqd x Q base (eqpA g (a.ev fr)) d l ks fr H ms := rfl
theorem S_slT {d : Option Nat} (a : IOpd) (lo hi : Option IOpd) {l : List IIns} : S x Q d (.slT a lo hi) l ks fr H ms = aq x Q (slTA (a.ev fr) (lo.map (·.ev fr)) (hi.map (·.ev fr))) d l ks fr H ms := rfl
theorem SE_slT {base md : Nat} {d : Option Nat} (a : IOpd) (lo hi : Option IOpd) {l : DPlan} : SE x Q base md d (.slT a lo hi) l ks fr H ms = ape x Q base (1 < md → rdFree (.slT a lo hi) fr = true) (slTA (a.ev fr) (lo.map (·.ev fr)) (hi.map (·.ev fr))) d l ks fr H ms := rfl
theorem SD_slT {base id md : Nat} {d : Option Nat} (a : IOpd) (lo hi : Option IOpd) {l : DPlan} : SD x Q base id md d (.slT a lo hi) l ks fr H ms = aqd x Q base (slTA (a.ev fr) (lo.map (·.ev fr)) (hi.map (·.ev fr))) d l ks fr H ms := rfl
theorem S_eqnil {d : Option Nat} (g : Bool) (a : IOpd) {l : List IIns} : S x Q d (.eqnil g a) l ks fr H ms = aq x Q (eqnilA g (a.ev fr)) d l ks fr H ms := rfl
theorem SE_eqnil {base md : Nat} {d : Option Nat} (g : Bool) (a : IOpd) {l : DPlan} : SE x Q base md d (.eqnil g a) l ks fr H ms = ape x Q base (1 < md → rdFree (.eqnil g a) fr = true) (eqnilA g (a.ev fr)) d l ks fr H ms := rfl
theorem SD_eqnil {base id md : Nat} {d : Option Nat} (g : Bool) (a : IOpd) {l : DPlan} : SD x Q base id md d (.eqnil g a) l ks fr H ms = aqd x Q base (eqnilA g (a.ev fr)) d l ks fr H ms := rfl
theorem S_un {d : Option Nat} (o : UnOp) (a : IOpd) {l : List IIns} : S x Q d (.un o a) l ks fr H ms = aq x Q (unA o (a.ev fr)) d l ks fr H ms := rfl
theorem SE_un {base md : Nat} {d : Option Nat} (o : UnOp) (a : IOpd) {l : DPlan} : SE x Q base md d (.un o a) l ks fr H ms = ape x Q base (1 < md → rdFree (.un o a) fr = true) (unA o (a.ev fr)) d l ks fr H ms := rfl
theorem SD_un {base id md : Nat} {d : Option Nat} (o : UnOp) (a : IOpd) {l : DPlan} : SD x Q base id md d (.un o a) l ks fr H ms = aqd x Q base (unA o (a.ev fr)) d l ks fr H ms := rfl
theorem S_conv {d : Option Nat} (k : IntKind) (a : IOpd) {l : List IIns} : S x Q d (.conv k a) l ks fr H ms = aq x Q (convA k (a.ev fr)) d l ks fr H ms := rfl
theorem SE_conv {base md : Nat} {d : Option Nat} (k : IntKind) (a : IOpd) {l : DPlan} : SE x Q base md d (.conv k a) l ks fr H ms = ape x Q base (1 < md → rdFree (.conv k a) fr = true) (convA k (a.ev fr)) d l ks fr H ms := rfl
theorem SD_conv {base id md : Nat} {d : Option Nat} (k : IntKind) (a : IOpd) {l : DPlan} : SD x Q base id md d (.conv k a) l ks fr H ms = aqd x Q base (convA k (a.ev fr)) d l ks fr H ms := rfl
theorem S_mkfn {d : Option Nat} (f : Fn) (a b : List IOpd) {l : List IIns} : S x Q d (.mkfn f a b) l ks fr H ms = aq x Q (some (True,.fn f (a.map (·.ev fr)) (b.map (·.ev fr)))) d l ks fr H ms := rfl
theorem SE_mkfn {base md : Nat} {d : Option Nat} (f : Fn) (a b : List IOpd) {l : DPlan} : SE x Q base md d (.mkfn f a b) l ks fr H ms = ape x Q base (1 < md → rdFree (.mkfn f a b) fr = true) (some (True,.fn f (a.map (·.ev fr)) (b.map (·.ev fr)))) d l ks fr H ms := rfl
theorem SD_mkfn {base id md : Nat} {d : Option Nat} (f : Fn) (a b : List IOpd) {l : DPlan} : SD x Q base id md d (.mkfn f a b) l ks fr H ms = aqd x Q base (some (True,.fn f (a.map (·.ev fr)) (b.map (·.ev fr)))) d l ks fr H ms := rfl
theorem S_load {d : Option Nat} (g : Bool) (k : Nat) (a : IOpd) {l : List IIns} : S x Q d (.load g k a) l ks fr H ms = aq x Q (loadA g k (a.ev fr) H) d l ks fr H ms := rfl
theorem SE_load {base md : Nat} {d : Option Nat} (g : Bool) (k : Nat) (a : IOpd) {l : DPlan} : SE x Q base md d (.load g k a) l ks fr H ms = ape x Q base (1 < md → rdFree (.load g k a) fr = true) (loadA g k (a.ev fr) H) d l ks fr H ms := rfl
theorem SD_load {base id md : Nat} {d : Option Nat} (g : Bool) (k : Nat) (a : IOpd) {l : DPlan} : SD x Q base id md d (.load g k a) l ks fr H ms = aqd x Q base (loadA g k (a.ev fr) H) d l ks fr H ms := rfl
theorem S_nilck {d : Option Nat} (a : IOpd) {l : List IIns} : S x Q d (.nilck a) l ks fr H ms = aq x Q (nilckA (a.ev fr)) d l ks fr H ms := rfl
theorem SE_nilck {base md : Nat} {d : Option Nat} (a : IOpd) {l : DPlan} : SE x Q base md d (.nilck a) l ks fr H ms = ape x Q base (1 < md → rdFree (.nilck a) fr = true) (nilckA (a.ev fr)) d l ks fr H ms := rfl
theorem SD_nilck {base id md : Nat} {d : Option Nat} (a : IOpd) {l : DPlan} : SD x Q base id md d (.nilck a) l ks fr H ms = aqd x Q base (nilckA (a.ev fr)) d l ks fr H ms := rfl
theorem S_slS {d : Option Nat} (k : Nat) (a : IOpd) (lo hi m : Option IOpd) {l : List IIns} : S x Q d (.slS k a lo hi m) l ks fr H ms = aq x Q (slSA k (a.ev fr) (lo.map (·.ev fr)) (hi.map (·.ev fr)) (m.map (·.ev fr))) d l ks fr H ms := rfl
theorem SE_slS {base md : Nat} {d : Option Nat} (k : Nat) (a : IOpd) (lo hi m : Option IOpd) {l : DPlan} : SE x Q base md d (.slS k a lo hi m) l ks fr H ms = ape x Q base (1 < md → rdFree (.slS k a lo hi m) fr = true) (slSA k (a.ev fr) (lo.map (·.ev fr)) (hi.map (·.ev fr)) (m.map (·.ev fr))) d l ks fr H ms := rfl
theorem SD_slS {base id md : Nat} {d : Option Nat} (k : Nat) (a : IOpd) (lo hi m : Option IOpd) {l : DPlan} : SD x Q base id md d (.slS k a lo hi m) l ks fr H ms = aqd x Q base (slSA k (a.ev fr) (lo.map (·.ev fr)) (hi.map (·.ev fr)) (m.map (·.ev fr))) d l ks fr H ms := rfl
theorem S_slP {d : Option Nat} (n k : Nat) (a : IOpd) (lo hi : Option IOpd) {l : List IIns} : S x Q d (.slP n k a lo hi) l ks fr H ms = aq x Q (slPA n k (a.ev fr) (lo.map (·.ev fr)) (hi.map (·.ev fr)) H) d l ks fr H ms := rfl
theorem SE_slP {base md : Nat} {d : Option Nat} (n k : Nat) (a : IOpd) (lo hi : Option IOpd) {l : DPlan} : SE x Q base md d (.slP n k a lo hi) l ks fr H ms = ape x Q base (1 < md → rdFree (.slP n k a lo hi) fr = true) (slPA n k (a.ev fr) (lo.map (·.ev fr)) (hi.map (·.ev fr)) H) d l ks fr H ms := rfl
theorem SD_slP {base id md : Nat} {d : Option Nat} (n k : Nat) (a : IOpd) (lo hi : Option IOpd) {l : DPlan} : SD x Q base id md d (.slP n k a lo hi) l ks fr H ms = aqd x Q base (slPA n k (a.ev fr) (lo.map (·.ev fr)) (hi.map (·.ev fr)) H) d l ks fr H ms := rfl
theorem S_fldA {d : Option Nat} (o : Nat) (a : IOpd) {l : List IIns} : S x Q d (.fldA o a) l ks fr H ms = aq x Q (fldAA o (a.ev fr)) d l ks fr H ms := rfl
theorem SE_fldA {base md : Nat} {d : Option Nat} (o : Nat) (a : IOpd) {l : DPlan} : SE x Q base md d (.fldA o a) l ks fr H ms = ape x Q base (1 < md → rdFree (.fldA o a) fr = true) (fldAA o (a.ev fr)) d l ks fr H ms := rfl
theorem SD_fldA {base id md : Nat} {d : Option Nat} (o : Nat) (a : IOpd) {l : DPlan} : SD x Q base id md d (.fldA o a) l ks fr H ms = aqd x Q base (fldAA o (a.ev fr)) d l ks fr H ms := rfl
theorem S_fld {d : Option Nat} (g : Bool) (k o : Nat) (a : IOpd) {l : List IIns} : S x Q d (.fld g k o a) l ks fr H ms = aq x Q (fldVA g k o (a.ev fr)) d l ks fr H ms := rfl
theorem SE_fld {base md : Nat} {d : Option Nat} (g : Bool) (k o : Nat) (a : IOpd) {l : DPlan} : SE x Q base md d (.fld g k o a) l ks fr H ms = ape x Q base (1 < md → rdFree (.fld g k o a) fr = true) (fldVA g k o (a.ev fr)) d l ks fr H ms := rfl
theorem SD_fld {base id md : Nat} {d : Option Nat} (g : Bool) (k o : Nat) (a : IOpd) {l : DPlan} : SD x Q base id md d (.fld g k o a) l ks fr H ms = aqd x Q base (fldVA g k o (a.ev fr)) d l ks fr H ms := rfl
theorem S_ixS {d : Option Nat} (k : Nat) (a b : IOpd) {l : List IIns} : S x Q d (.ixS k a b) l ks fr H ms = aq x Q (ixSA k (a.ev fr) (b.ev fr)) d l ks fr H ms := rfl
theorem SE_ixS {base md : Nat} {d : Option Nat} (k : Nat) (a b : IOpd) {l : DPlan} : SE x Q base md d (.ixS k a b) l ks fr H ms = ape x Q base (1 < md → rdFree (.ixS k a b) fr = true) (ixSA k (a.ev fr) (b.ev fr)) d l ks fr H ms := rfl
theorem SD_ixS {base id md : Nat} {d : Option Nat} (k : Nat) (a b : IOpd) {l : DPlan} : SD x Q base id md d (.ixS k a b) l ks fr H ms = aqd x Q base (ixSA k (a.ev fr) (b.ev fr)) d l ks fr H ms := rfl
theorem S_ixP {d : Option Nat} (n k : Nat) (a b : IOpd) {l : List IIns} : S x Q d (.ixP n k a b) l ks fr H ms = aq x Q (ixPA n k (a.ev fr) (b.ev fr)) d l ks fr H ms := rfl
theorem SE_ixP {base md : Nat} {d : Option Nat} (n k : Nat) (a b : IOpd) {l : DPlan} : SE x Q base md d (.ixP n k a b) l ks fr H ms = ape x Q base (1 < md → rdFree (.ixP n k a b) fr = true) (ixPA n k (a.ev fr) (b.ev fr)) d l ks fr H ms := rfl
theorem SD_ixP {base id md : Nat} {d : Option Nat} (n k : Nat) (a b : IOpd) {l : DPlan} : SD x Q base id md d (.ixP n k a b) l ks fr H ms = aqd x Q base (ixPA n k (a.ev fr) (b.ev fr)) d l ks fr H ms := rfl
theorem S_ixV {d : Option Nat} (g : Bool) (n k : Nat) (a b : IOpd) {l : List IIns} : S x Q d (.ixV g n k a b) l ks fr H ms = aq x Q (ixVA g n k (a.ev fr) (b.ev fr)) d l ks fr H ms := rfl
theorem SE_ixV {base md : Nat} {d : Option Nat} (g : Bool) (n k : Nat) (a b : IOpd) {l : DPlan} : SE x Q base md d (.ixV g n k a b) l ks fr H ms = ape x Q base (1 < md → rdFree (.ixV g n k a b) fr = true) (ixVA g n k (a.ev fr) (b.ev fr)) d l ks fr H ms := rfl
theorem SD_ixV {base id md : Nat} {d : Option Nat} (g : Bool) (n k : Nat) (a b : IOpd) {l : DPlan} : SD x Q base id md d (.ixV g n k a b) l ks fr H ms = aqd x Q base (ixVA g n k (a.ev fr) (b.ev fr)) d l ks fr H ms := rfl
theorem S_ixStr {d : Option Nat} (a b : IOpd) {l : List IIns} : S x Q d (.ixStr a b) l ks fr H ms = aq x Q (ixStrA (a.ev fr) (b.ev fr)) d l ks fr H ms := rfl
theorem SE_ixStr {base md : Nat} {d : Option Nat} (a b : IOpd) {l : DPlan} : SE x Q base md d (.ixStr a b) l ks fr H ms = ape x Q base (1 < md → rdFree (.ixStr a b) fr = true) (ixStrA (a.ev fr) (b.ev fr)) d l ks fr H ms := rfl
theorem SD_ixStr {base id md : Nat} {d : Option Nat} (a b : IOpd) {l : DPlan} : SD x Q base id md d (.ixStr a b) l ks fr H ms = aqd x Q base (ixStrA (a.ev fr) (b.ev fr)) d l ks fr H ms := rfl
theorem S_ext {d : Option Nat} (a : IOpd) (i : Nat) {l : List IIns} : S x Q d (.ext a i) l ks fr H ms = aq x Q (extA (a.ev fr) i) d l ks fr H ms := rfl
theorem SE_ext {base md : Nat} {d : Option Nat} (a : IOpd) (i : Nat) {l : DPlan} : SE x Q base md d (.ext a i) l ks fr H ms = ape x Q base (1 < md → rdFree (.ext a i) fr = true) (extA (a.ev fr) i) d l ks fr H ms := rfl
theorem SD_ext {base id md : Nat} {d : Option Nat} (a : IOpd) (i : Nat) {l : DPlan} : SD x Q base id md d (.ext a i) l ks fr H ms = aqd x Q base (extA (a.ev fr) i) d l ks fr H ms := rfl
theorem S_len {d : Option Nat} (a : IOpd) {l : List IIns} : S x Q d (.len a) l ks fr H ms = aq x Q (lenA (a.ev fr)) d l ks fr H ms := rfl
theorem SE_len {base md : Nat} {d : Option Nat} (a : IOpd) {l : DPlan} : SE x Q base md d (.len a) l ks fr H ms = ape x Q base (1 < md → rdFree (.len a) fr = true) (lenA (a.ev fr)) d l ks fr H ms := rfl
theorem SD_len {base id md : Nat} {d : Option Nat} (a : IOpd) {l : DPlan} : SD x Q base id md d (.len a) l ks fr H ms = aqd x Q base (lenA (a.ev fr)) d l ks fr H ms := rfl
theorem S_lenStr {d : Option Nat} (a : IOpd) {l : List IIns} : S x Q d (.lenStr a) l ks fr H ms = aq x Q (lenStrA (a.ev fr)) d l ks fr H ms := rfl
theorem SE_lenStr {base md : Nat} {d : Option Nat} (a : IOpd) {l : DPlan} : SE x Q base md d (.lenStr a) l ks fr H ms = ape x Q base (1 < md → rdFree (.lenStr a) fr = true) (lenStrA (a.ev fr)) d l ks fr H ms := rfl
theorem SD_lenStr {base id md : Nat} {d : Option Nat} (a : IOpd) {l : DPlan} : SD x Q base id md d (.lenStr a) l ks fr H ms = aqd x Q base (lenStrA (a.ev fr)) d l ks fr H ms := rfl
theorem S_lenc {d : Option Nat} (n : Nat) {l : List IIns} : S x Q d (.lenc n) l ks fr H ms = aq x Q (some (True,I n)) d l ks fr H ms := rfl
theorem SE_lenc {base md : Nat} {d : Option Nat} (n : Nat) {l : DPlan} : SE x Q base md d (.lenc n) l ks fr H ms = ape x Q base (1 < md → rdFree (.lenc n) fr = true) (some (True,I n)) d l ks fr H ms := rfl
theorem SD_lenc {base id md : Nat} {d : Option Nat} (n : Nat) {l : DPlan} : SD x Q base id md d (.lenc n) l ks fr H ms = aqd x Q base (some (True,I n)) d l ks fr H ms := rfl
theorem S_mn {d : Option Nat} (a b : IOpd) {l : List IIns} : S x Q d (.mn a b) l ks fr H ms = aq x Q (mnA (a.ev fr) (b.ev fr)) d l ks fr H ms := rfl
theorem SE_mn {base md : Nat} {d : Option Nat} (a b : IOpd) {l : DPlan} : SE x Q base md d (.mn a b) l ks fr H ms = ape x Q base (1 < md → rdFree (.mn a b) fr = true) (mnA (a.ev fr) (b.ev fr)) d l ks fr H ms := rfl
theorem SD_mn {base id md : Nat} {d : Option Nat} (a b : IOpd) {l : DPlan} : SD x Q base id md d (.mn a b) l ks fr H ms = aqd x Q base (mnA (a.ev fr) (b.ev fr)) d l ks fr H ms := rfl
theorem S_mx {d : Option Nat} (a b : IOpd) {l : List IIns} : S x Q d (.mx a b) l ks fr H ms = aq x Q (mxA (a.ev fr) (b.ev fr)) d l ks fr H ms := rfl
theorem SE_mx {base md : Nat} {d : Option Nat} (a b : IOpd) {l : DPlan} : SE x Q base md d (.mx a b) l ks fr H ms = ape x Q base (1 < md → rdFree (.mx a b) fr = true) (mxA (a.ev fr) (b.ev fr)) d l ks fr H ms := rfl
theorem SD_mx {base id md : Nat} {d : Option Nat} (a b : IOpd) {l : DPlan} : SD x Q base id md d (.mx a b) l ks fr H ms = aqd x Q base (mxA (a.ev fr) (b.ev fr)) d l ks fr H ms := rfl
theorem S_build {d : Option Nat} (z : List AVal) (ps : List (Nat × Nat × IOpd)) {l : List IIns} : S x Q d (.build z ps) l ks fr H ms = aq x Q (buildA z (ps.map fun p => (p.1,p.2.1,p.2.2.ev fr))) d l ks fr H ms := rfl
theorem SE_build {base md : Nat} {d : Option Nat} (z : List AVal) (ps : List (Nat × Nat × IOpd)) {l : DPlan} : SE x Q base md d (.build z ps) l ks fr H ms = ape x Q base (1 < md → rdFree (.build z ps) fr = true) (buildA z (ps.map fun p => (p.1,p.2.1,p.2.2.ev fr))) d l ks fr H ms := rfl
theorem SD_build {base id md : Nat} {d : Option Nat} (z : List AVal) (ps : List (Nat × Nat × IOpd)) {l : DPlan} : SD x Q base id md d (.build z ps) l ks fr H ms = aqd x Q base (buildA z (ps.map fun p => (p.1,p.2.1,p.2.2.ev fr))) d l ks fr H ms := rfl
theorem S_alloc {d : Option Nat} (z : List AVal) {l : List IIns} : S x Q d (.alloc z) l ks fr H ms = aa x Q (opa (.alloc z) fr) d l ks fr H ms := rfl
theorem SD_alloc {base id md : Nat} {d : Option Nat} (z : List AVal) {l : DPlan} : SD x Q base id md d (.alloc z) l ks fr H ms = aad x Q base id (opa (.alloc z) fr) d l ks fr H ms := rfl
theorem S_box {d : Option Nat} (a : IOpd) {l : List IIns} : S x Q d (.box a) l ks fr H ms = aa x Q (opa (.box a) fr) d l ks fr H ms := rfl
theorem SD_box {base id md : Nat} {d : Option Nat} (a : IOpd) {l : DPlan} : SD x Q base id md d (.box a) l ks fr H ms = aad x Q base id (opa (.box a) fr) d l ks fr H ms := rfl
theorem S_bslice {d : Option Nat} (k n : Nat) (z : List AVal) (ps : List (Nat × Nat × IOpd)) {l : List IIns} : S x Q d (.bslice k n z ps) l ks fr H ms = aa x Q (opa (.bslice k n z ps) fr) d l ks fr H ms := rfl
theorem SD_bslice {base id md : Nat} {d : Option Nat} (k n : Nat) (z : List AVal) (ps : List (Nat × Nat × IOpd)) {l : DPlan} : SD x Q base id md d (.bslice k n z ps) l ks fr H ms = aad x Q base id (opa (.bslice k n z ps) fr) d l ks fr H ms := rfl
theorem S_mksl {d : Option Nat} (k b : Nat) (z : List AVal) (a c : IOpd) {l : List IIns} : S x Q d (.mksl k b z a c) l ks fr H ms = aa x Q (opa (.mksl k b z a c) fr) d l ks fr H ms := rfl
theorem SD_mksl {base id md : Nat} {d : Option Nat} (k b : Nat) (z : List AVal) (a c : IOpd) {l : DPlan} : SD x Q base id md d (.mksl k b z a c) l ks fr H ms = aad x Q base id (opa (.mksl k b z a c) fr) d l ks fr H ms := rfl
theorem S_store {d : Option Nat} (k : Nat) (a b : IOpd) {l : List IIns} : S x Q d (.store k a b) l ks fr H ms = al x Q (stoA k (a.ev fr) (b.ev fr) H) d l ks fr H ms := rfl
theorem SD_store {base id md : Nat} {d : Option Nat} (k : Nat) (a b : IOpd) {l : DPlan} : SD x Q base id md d (.store k a b) l ks fr H ms = ald x Q base id false (stoA k (a.ev fr) (b.ev fr) H) d l ks fr H ms := rfl
theorem S_append {d : Option Nat} (k b : Nat) (s a : IOpd) {l : List IIns} : S x Q d (.append k b s a) l ks fr H ms = alA x Q (appA k b (s.ev fr) (a.ev fr) H H.length fun H b => H ++ [b]) k b (s.ev fr) (a.ev fr) d l ks fr H ms := rfl
theorem SD_append {base id md : Nat} {d : Option Nat} (k b : Nat) (s a : IOpd) {l : DPlan} : SD x Q base id md d (.append k b s a) l ks fr H ms = ald x Q base id true (appA k b (s.ev fr) (a.ev fr) H id fun H b => H.set id b) d l ks fr H ms := rfl
theorem S_copy {d : Option Nat} (k : Nat) (a b : IOpd) {l : List IIns} : S x Q d (.copy k a b) l ks fr H ms = al x Q (copA k (a.ev fr) (b.ev fr) H) d l ks fr H ms := rfl
theorem SD_copy {base id md : Nat} {d : Option Nat} (k : Nat) (a b : IOpd) {l : DPlan} : SD x Q base id md d (.copy k a b) l ks fr H ms = ald x Q base id false (copA k (a.ev fr) (b.ev fr) H) d l ks fr H ms := rfl
theorem S_clr {d : Option Nat} (k : Nat) (z : List AVal) (a : IOpd) {l : List IIns} : S x Q d (.clr k z a) l ks fr H ms = al x Q (clrA k z (a.ev fr) H) d l ks fr H ms := rfl
theorem SD_clr {base id md : Nat} {d : Option Nat} (k : Nat) (z : List AVal) (a : IOpd) {l : DPlan} : SD x Q base id md d (.clr k z a) l ks fr H ms = ald x Q base id false (clrA k z (a.ev fr) H) d l ks fr H ms := rfl
theorem S_mlen {d : Option Nat} (a : IOpd) {l : List IIns} : S x Q d (.mlen a) l ks fr H ms = aq x Q (mlenA (a.ev fr) H) d l ks fr H ms := rfl
theorem SE_mlen {base md : Nat} {d : Option Nat} (a : IOpd) {l : DPlan} : SE x Q base md d (.mlen a) l ks fr H ms = ape x Q base (1 < md → rdFree (.mlen a) fr = true) (mlenA (a.ev fr) H) d l ks fr H ms := rfl
theorem SD_mlen {base id md : Nat} {d : Option Nat} (a : IOpd) {l : DPlan} : SD x Q base id md d (.mlen a) l ks fr H ms = aqd x Q base (mlenA (a.ev fr) H) d l ks fr H ms := rfl
theorem S_mget {d : Option Nat} (n : Nat) (z : AVal) (m k : IOpd) {l : List IIns} : S x Q d (.mget n z m k) l ks fr H ms = aq x Q (mgetA n z (m.ev fr) (k.ev fr) H) d l ks fr H ms := rfl
theorem SE_mget {base md : Nat} {d : Option Nat} (n : Nat) (z : AVal) (m k : IOpd) {l : DPlan} : SE x Q base md d (.mget n z m k) l ks fr H ms = ape x Q base (1 < md → rdFree (.mget n z m k) fr = true) (mgetA n z (m.ev fr) (k.ev fr) H) d l ks fr H ms := rfl
theorem SD_mget {base id md : Nat} {d : Option Nat} (n : Nat) (z : AVal) (m k : IOpd) {l : DPlan} : SD x Q base id md d (.mget n z m k) l ks fr H ms = aqd x Q base (mgetA n z (m.ev fr) (k.ev fr) H) d l ks fr H ms := rfl
theorem S_mval {d : Option Nat} (n : Nat) (z : AVal) (m k : IOpd) {l : List IIns} : S x Q d (.mval n z m k) l ks fr H ms = aq x Q (mvalA n z (m.ev fr) (k.ev fr) H) d l ks fr H ms := rfl
theorem SE_mval {base md : Nat} {d : Option Nat} (n : Nat) (z : AVal) (m k : IOpd) {l : DPlan} : SE x Q base md d (.mval n z m k) l ks fr H ms = ape x Q base (1 < md → rdFree (.mval n z m k) fr = true) (mvalA n z (m.ev fr) (k.ev fr) H) d l ks fr H ms := rfl
theorem SD_mval {base id md : Nat} {d : Option Nat} (n : Nat) (z : AVal) (m k : IOpd) {l : DPlan} : SD x Q base id md d (.mval n z m k) l ks fr H ms = aqd x Q base (mvalA n z (m.ev fr) (k.ev fr) H) d l ks fr H ms := rfl
theorem S_mentry {d : Option Nat} (a : IOpd) {l : List IIns} : S x Q d (.mentry a) l ks fr H ms = aq x Q (mentryA (a.ev fr) H) d l ks fr H ms := rfl
theorem SE_mentry {base md : Nat} {d : Option Nat} (a : IOpd) {l : DPlan} : SE x Q base md d (.mentry a) l ks fr H ms = ape x Q base (1 < md → rdFree (.mentry a) fr = true) (mentryA (a.ev fr) H) d l ks fr H ms := rfl
theorem SD_mentry {base id md : Nat} {d : Option Nat} (a : IOpd) {l : DPlan} : SD x Q base id md d (.mentry a) l ks fr H ms = aqd x Q base (mentryA (a.ev fr) H) d l ks fr H ms := rfl
theorem S_mkmap {d : Option Nat} {l : List IIns} : S x Q d .mkmap l ks fr H ms = al x Q (some (True,.mp H.length,H ++ [.map []])) d l ks fr H ms := rfl
theorem SD_mkmap {base id md : Nat} {d : Option Nat} {l : DPlan} : SD x Q base id md d .mkmap l ks fr H ms = ald x Q base id true (some (True,.mp id,H.set id (.map []))) d l ks fr H ms := rfl
theorem S_mset {d : Option Nat} (n : Nat) (m k a : IOpd) {l : List IIns} : S x Q d (.mset n m k a) l ks fr H ms = al x Q (msetA n (m.ev fr) (k.ev fr) (a.ev fr) H) d l ks fr H ms := rfl
theorem SD_mset {base id md : Nat} {d : Option Nat} (n : Nat) (m k a : IOpd) {l : DPlan} : SD x Q base id md d (.mset n m k a) l ks fr H ms = ald x Q base id false (msetA n (m.ev fr) (k.ev fr) (a.ev fr) H) d l ks fr H ms := rfl
theorem S_mrange {d : Option Nat} (m : IOpd) {l : List IIns} : S x Q d (.mrange m) l ks fr H ms = al x Q (mrangeA (m.ev fr) H H.length fun H b => H ++ [b]) d l ks fr H ms := rfl
theorem SD_mrange {base id md : Nat} {d : Option Nat} (m : IOpd) {l : DPlan} : SD x Q base id md d (.mrange m) l ks fr H ms = ald x Q base id true (mrangeA (m.ev fr) H id fun H b => H.set id b) d l ks fr H ms := rfl
theorem S_mnext {d : Option Nat} (a : IOpd) {l : List IIns} : S x Q d (.mnext a) l ks fr H ms = mnextA (a.ev fr) H fun v H' => O x Q l ks (fr.putd d v) H' ms := rfl
theorem mnext_go {H : AHeap} {K : AVal → AHeap → Prop} {i m n : Nat} {seen : List Nat} {es : List (AVal × AVal)} (hi : H[i]? = some (.iter m n seen)) (hm : H[m]? = some (.map es)) (hn : es.length = n)
    (h1 : (∀ k,k < n → k ∈ seen) → K (.tup [B false]) H) (h2 : ∀ k p,es[k]? = some p → k ∉ seen → K (.tup [B true,p.1,p.2]) (H.set i (.iter m n (seen ++ [k])))) : mnextA (.ptr i 0) H K := by
  simp only [mnextA,hi,hm]
  exact ⟨trivial,hn,h1,h2⟩
theorem aq_some {p : Prop} {v : AVal} {d : Option Nat} {l : List IIns} : aq x Q (some (p,v)) d l ks fr H ms = (p ∧ O x Q l ks (fr.putd d v) H ms) := rfl
theorem aa_some {p : Prop} {mk : Nat → AVal} {cs : List AVal} {d : Option Nat} {l : List IIns} : aa x Q (some (p,mk,cs)) d l ks fr H ms = (p ∧ O x Q l ks (fr.putd d (mk H.length)) (H ++ [.cells cs]) ms) := rfl
theorem al_some {p : Prop} {v : AVal} {H' : AHeap} {d : Option Nat} {l : List IIns} : al x Q (some (p,v,H')) d l ks fr H ms = (p ∧ O x Q l ks (fr.putd d v) H' ms) := rfl
theorem alA_some {k b : Nat} {s a : AVal} {p : Prop} {v : AVal} {H' : AHeap} {d : Option Nat} {l : List IIns} : alA x Q (some (p,v,H')) k b s a d l ks fr H ms = (p ∧ O x Q l ks (fr.putd d v) H' ms) := rfl
theorem aqd_some {base : Nat} {p : Prop} {v : AVal} {d : Option Nat} {l : DPlan} : aqd x Q base (some (p,v)) d l ks fr H ms = (p ∧ D x Q base l ks (fr.putd d v) H ms) := rfl
theorem aad_some {base id : Nat} {p : Prop} {mk : Nat → AVal} {cs : List AVal} {d : Option Nat} {l : DPlan} : aad x Q base id (some (p,mk,cs)) d l ks fr H ms = (p ∧ H[id]? = some .hole ∧ D x Q base l ks (fr.putd d (mk id)) (H.set id (.cells cs)) ms) := rfl
theorem ald_some {base id : Nat} {app : Bool} {p : Prop} {v : AVal} {H' : AHeap} {d : Option Nat} {l : DPlan} : ald x Q base id app (some (p,v,H')) d l ks fr H ms = (p ∧ (app = true → H[id]? = some .hole) ∧ D x Q base l ks (fr.putd d v) H' ms) := rfl
theorem ape_some {base : Nat} {pr p : Prop} {v : AVal} {d : Option Nat} {l : DPlan} : ape x Q base pr (some (p,v)) d l ks fr H ms = (p ∧ pr ∧ D x Q base l ks (fr.putd d v) H ms) := rfl
theorem D_done {base : Nat} : D x Q base .done ks fr H ms = KQ x Q .norm ks fr H ms := rfl
theorem D_both {base : Nat} {a b : DPlan} : D x Q base (.both a b) ks fr H ms = (D x Q base a ks fr H ms ∧ D x Q base b ks fr H ms) := rfl
theorem D_early {base md : Nat} {d : Option Nat} {op : IOp} {l : DPlan} : D x Q base (.early md ⟨d,op,none⟩ l) ks fr H ms = SE x Q base md d op l ks fr H ms := rfl
theorem D_step {base id md : Nat} {d : Option Nat} {op : IOp} {l : DPlan} : D x Q base (.step id md ⟨d,op,none⟩ l) ks fr H ms = SD x Q base (base + id) md d op l ks fr H ms := rfl
theorem SE_call {base md : Nat} {d : Option Nat} {f : IOpd} {args : List IOpd} {l : DPlan} : SE x Q base md d (.call f args) l ks fr H ms = (md ≠ 0 ∧ CallKD true x Q base md (f.ev fr) (args.map (·.ev fr)) d l ks fr H ms) := by
  by_cases h : md = 0
  · subst h; simp [SE,earlyD]
  · simp only [SE,earlyD,CallKD,h,if_false,Bool.true_eq_false,false_and,or_false]
theorem SD_call {base id md : Nat} {d : Option Nat} {f : IOpd} {args : List IOpd} {l : DPlan} : SD x Q base id md d (.call f args) l ks fr H ms = CallKD false x Q base md (f.ev fr) (args.map (·.ev fr)) d l ks fr H ms := by
  by_cases h : md = 0
  · subst h; rfl
  · simp only [SD,istepD,CallKD,h,if_false,true_and]
theorem icond_bool {t : Bool} {yes no : Prop} : icond (.val (.bool t)) yes no = ((t = true → yes) ∧ (t = false → no)) := rfl
theorem CallK.by {fv : AVal} {args : List AVal} {d : Option Nat} {l : List IIns} {R : AVal → AHeap → Prop} (h : CallV x.P fv args H R) (hk : ∀ v H',R v H' → O x Q l ks (fr.putd d v) H' ms) : CallK x Q fv args d l ks fr H ms := h.mono hk
theorem CallK.pure {fv : AVal} {args : List AVal} {d : Option Nat} {l : List IIns} {v : AVal} (h : CallV x.P fv args H fun v' H' => v' = v ∧ H' = H) (hk : O x Q l ks (fr.putd d v) H ms) : CallK x Q fv args d l ks fr H ms := h.mono fun v' H' ⟨h1,h2⟩ => by subst h1 h2; exact hk
theorem CallKD.pure {early : Bool} {base md : Nat} {fv : AVal} {args : List AVal} {d : Option Nat} {l : DPlan} {v : AVal} (h : ∀ H,CallV x.P fv args H fun v' H' => v' = v ∧ H' = H) (hk : D x Q base l ks (fr.putd d v) H ms) : CallKD early x Q base md fv args d l ks fr H ms := by
  unfold CallKD
  split
  · exact (h H).mono fun v' H' ⟨h1,h2⟩ => by subst h1 h2; exact hk
  · exact .inl ⟨v,fun H' _ => h H',hk⟩
theorem CallKD.by {early : Bool} {base : Nat} {fv : AVal} {args : List AVal} {d : Option Nat} {l : DPlan} {R : AVal → AHeap → Prop} (h : CallV x.P fv args H R) (hk : ∀ v H',R v H' → D x Q base l ks (fr.putd d v) H' ms) : CallKD early x Q base 0 fv args d l ks fr H ms := by
  unfold CallKD; rw [if_pos rfl]; exact h.mono hk
theorem CallKD.pure' {early : Bool} {base : Nat} {fv : AVal} {args : List AVal} {d : Option Nat} {l : DPlan} {v : AVal} (h : CallV x.P fv args H fun v' H' => v' = v ∧ H' = H) (hk : D x Q base l ks (fr.putd d v) H ms) : CallKD early x Q base 0 fv args d l ks fr H ms := by
  unfold CallKD; rw [if_pos rfl]; exact h.mono fun v' H' ⟨h1,h2⟩ => by subst h1 h2; exact hk
theorem CallKD.grow {base md : Nat} {fv : AVal} {args : List AVal} {d : Option Nat} {l : DPlan} {R : AVal → AHeap → Prop} (h : CallV x.P fv args H R) (hk : ∀ v H',R v H' → Fills H H' ∧ D x Q base l ks (fr.putd d v) H' ms) : CallKD false x Q base md fv args d l ks fr H ms := by
  unfold CallKD
  split
  · exact h.mono fun v H' hr => (hk v H' hr).2
  · exact .inr ⟨rfl,h.mono hk⟩
end
theorem Spec.walk {X : List (Nat × Nat)} {P : Program} (hm : P.follows .mixedOrders = true) {f : FuncId} {fn : Func} {ic : ICode} {rs : List IRes} (hf : P.funcs[f]? = some fn) (hn : (fn.name == "runtime.NumGoroutine") = false)
    (ht : fn.body.bind (trCodeX X P fn.ntmps) = some (strip ic)) (hr : trRes P fn.results.toList = some rs) {args : List AVal} {n : Nat} (hnt : fn.ntmps = n) (ha : args.length ≤ n) {H : AHeap} {R : AVal → AHeap → Prop}
    (h : W ⟨P, H.length, n, true⟩ (retA H.length rs R) ic [] (entryFr 0 args) H []) : Spec P f args H R := by
  subst hnt
  obtain ⟨c, hc, ht⟩ := Option.bind_eq_some_iff.1 ht
  exact Spec.of_iwp hm hf hc hn ht hr ha h
theorem Wk.nil {fr fr' : Fr} {H : AHeap} (h : fle H [] [] fr fr') : Wk 0 [] [] fr H fr' [] :=
  ⟨rfl,fun i hi => absurd hi (by omega),List.nodup_nil,trivial,h,fun m hm => by cases hm⟩
theorem retA_nil {rs : List IRes} {R : AVal → AHeap → Prop} {e : Ex} {fr : Fr} {H : AHeap} (he : e = .norm ∨ e = .ret) {p : Prop} {vs : List AVal} (h : resL fr H rs = some (p,vs)) (hp : p) {v : AVal} (hv : vle H [] [] 3 (retV vs) v) (hR : R v []) : retA 0 rs R e fr H [] := by
  refine ⟨he,?_⟩
  simp only [killM,h]
  exact ⟨hp,[],v,[],Wk.nil ⟨hv,trivial⟩,hR⟩
end Go.Abs
