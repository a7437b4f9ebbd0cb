/- Walking with decisions kept apart: nothing is walked before it is known which branch is taken. -/
import Derived.Test.YtlonaefihjdkpaaAP
namespace Go.Abs
open AVal
def G (x : Cx) (Q : QT) (v : AVal) (s : Nat) (b : Bool) (d : Option Nat) (op : IOp) (l : List IIns) (ks : List Kont) (fr : Fr) (H : AHeap) (ms : List Nat) : Prop :=
  gd v b (S x Q d op l ks (fr.put s (B b)) H ms) (O x Q l ks ((fr.put s (B (!b))).putd d U) H ms) (O x Q l ks (fr.putd d U) H ms)
def GE (x : Cx) (Q : QT) (base md : Nat) (v : AVal) (s : Nat) (b : Bool) (d : Option Nat) (op : IOp) (l : DPlan) (ks : List Kont) (fr : Fr) (H : AHeap) (ms : List Nat) : Prop :=
  gd v b (SE x Q base md d op l ks (fr.put s (B b)) H ms) (D x Q base l ks ((fr.put s (B (!b))).putd d U) H ms) (D x Q base l ks (fr.putd d U) H ms)
def GS (x : Cx) (Q : QT) (base id md : Nat) (v : AVal) (s : Nat) (b : Bool) (d : Option Nat) (op : IOp) (l : DPlan) (ks : List Kont) (fr : Fr) (H : AHeap) (ms : List Nat) : Prop :=
  gd v b (SD x Q base (base + id) md d op l ks (fr.put s (B b)) H ms) (D x Q base l ks ((fr.put s (B (!b))).putd d U) H ms) (D x Q base l ks (fr.putd d U) H ms)
def IC (x : Cx) (Q : QT) (v : AVal) (a b : ICode) (ks : List Kont) (fr : Fr) (H : AHeap) (ms : List Nat) : Prop :=
  icond v (W x Q a ks fr H ms) (W x Q b ks fr H ms)
section
variable {x : Cx} {Q : QT} {ks : List Kont} {fr : Fr} {H : AHeap} {ms : List Nat} {d : Option Nat} {op : IOp} {s : Nat}
theorem step {a b : Prop} (h : a = b) : a = b := h
theorem O_guard' {b : Bool} {l : List IIns} : O x Q (⟨d,op,some (s,b)⟩ :: l) ks fr H ms = G x Q (fr.get s) s b d op l ks fr H ms := rfl
theorem D_earlyG' {base md : Nat} {b : Bool} {l : DPlan} : D x Q base (.early md ⟨d,op,some (s,b)⟩ l) ks fr H ms = GE x Q base md (fr.get s) s b d op l ks fr H ms := rfl
theorem D_stepG' {base id md : Nat} {b : Bool} {l : DPlan} : D x Q base (.step id md ⟨d,op,some (s,b)⟩ l) ks fr H ms = GS x Q base id md (fr.get s) s b d op l ks fr H ms := rfl
theorem W_cond' {c : IOpd} {a b : ICode} : W x Q (.cond c a b) ks fr H ms = IC x Q (c.ev fr) a b ks fr H ms := rfl
theorem G_tt {l : List IIns} : G x Q (B true) s true d op l ks fr H ms = S x Q d op l ks (fr.put s (B true)) H ms := by simp [G,gd]
theorem G_tf {l : List IIns} : G x Q (B true) s false d op l ks fr H ms = O x Q l ks ((fr.put s (B true)).putd d U) H ms := by simp [G,gd]
theorem G_ft {l : List IIns} : G x Q (B false) s true d op l ks fr H ms = O x Q l ks ((fr.put s (B false)).putd d U) H ms := by simp [G,gd]
theorem G_ff {l : List IIns} : G x Q (B false) s false d op l ks fr H ms = S x Q d op l ks (fr.put s (B false)) H ms := by simp [G,gd]
theorem GE_tt {base md : Nat} {l : DPlan} : GE x Q base md (B true) s true d op l ks fr H ms = SE x Q base md d op l ks (fr.put s (B true)) H ms := by simp [GE,gd]
theorem GE_tf {base md : Nat} {l : DPlan} : GE x Q base md (B true) s false d op l ks fr H ms = D x Q base l ks ((fr.put s (B true)).putd d U) H ms := by simp [GE,gd]
theorem GE_ft {base md : Nat} {l : DPlan} : GE x Q base md (B false) s true d op l ks fr H ms = D x Q base l ks ((fr.put s (B false)).putd d U) H ms := by simp [GE,gd]
theorem GE_ff {base md : Nat} {l : DPlan} : GE x Q base md (B false) s false d op l ks fr H ms = SE x Q base md d op l ks (fr.put s (B false)) H ms := by simp [GE,gd]
theorem GS_tt {base id md : Nat} {l : DPlan} : GS x Q base id md (B true) s true d op l ks fr H ms = SD x Q base (base + id) md d op l ks (fr.put s (B true)) H ms := by simp [GS,gd]
theorem GS_tf {base id md : Nat} {l : DPlan} : GS x Q base id md (B true) s false d op l ks fr H ms = D x Q base l ks ((fr.put s (B true)).putd d U) H ms := by simp [GS,gd]
theorem GS_ft {base id md : Nat} {l : DPlan} : GS x Q base id md (B false) s true d op l ks fr H ms = D x Q base l ks ((fr.put s (B false)).putd d U) H ms := by simp [GS,gd]
theorem GS_ff {base id md : Nat} {l : DPlan} : GS x Q base id md (B false) s false d op l ks fr H ms = SD x Q base (base + id) md d op l ks (fr.put s (B false)) H ms := by simp [GS,gd]
theorem G_u {b : Bool} {l : List IIns} : G x Q U s b d op l ks fr H ms = O x Q l ks (fr.putd d U) H ms := step rfl
theorem GE_u {base md : Nat} {b : Bool} {l : DPlan} : GE x Q base md U s b d op l ks fr H ms = D x Q base l ks (fr.putd d U) H ms := step rfl
theorem GS_u {base id md : Nat} {b : Bool} {l : DPlan} : GS x Q base id md U s b d op l ks fr H ms = D x Q base l ks (fr.putd d U) H ms := step rfl
theorem IC_t {a b : ICode} : IC x Q (B true) a b ks fr H ms = W x Q a ks fr H ms := by simp [IC,icond]
theorem IC_f {a b : ICode} : IC x Q (B false) a b ks fr H ms = W x Q b ks fr H ms := by simp [IC,icond]
/-! Both at once. -/
theorem G_bool {t b : Bool} {l : List IIns} : G x Q (B t) s b d op l ks fr H ms = ((t = b → S x Q d op l ks (fr.put s (B b)) H ms) ∧ (t = (!b) → O x Q l ks ((fr.put s (B (!b))).putd d U) H ms)) := rfl
theorem GE_bool {base md : Nat} {t b : Bool} {l : DPlan} : GE x Q base md (B t) s b d op l ks fr H ms = ((t = b → SE x Q base md d op l ks (fr.put s (B b)) H ms) ∧ (t = (!b) → D x Q base l ks ((fr.put s (B (!b))).putd d U) H ms)) := rfl
theorem GS_bool {base id md : Nat} {t b : Bool} {l : DPlan} : GS x Q base id md (B t) s b d op l ks fr H ms = ((t = b → SD x Q base (base + id) md d op l ks (fr.put s (B b)) H ms) ∧ (t = (!b) → D x Q base l ks ((fr.put s (B (!b))).putd d U) H ms)) := rfl
/-! Unknown: both. -/
theorem G.split {t b : Bool} {l : List IIns} (h1 : t = true → G x Q (B true) s b d op l ks fr H ms) (h2 : t = false → G x Q (B false) s b d op l ks fr H ms) : G x Q (B t) s b d op l ks fr H ms := by cases t <;> simp_all
theorem GE.split {base md : Nat} {t b : Bool} {l : DPlan} (h1 : t = true → GE x Q base md (B true) s b d op l ks fr H ms) (h2 : t = false → GE x Q base md (B false) s b d op l ks fr H ms) : GE x Q base md (B t) s b d op l ks fr H ms := by cases t <;> simp_all
theorem GS.split {base id md : Nat} {t b : Bool} {l : DPlan} (h1 : t = true → GS x Q base id md (B true) s b d op l ks fr H ms) (h2 : t = false → GS x Q base id md (B false) s b d op l ks fr H ms) : GS x Q base id md (B t) s b d op l ks fr H ms := by cases t <;> simp_all
theorem IC.split {t : Bool} {a b : ICode} (h1 : t = true → W x Q a ks fr H ms) (h2 : t = false → W x Q b ks fr H ms) : IC x Q (B t) a b ks fr H ms := by cases t <;> simp_all [IC_t,IC_f]
theorem G.splitP {p : Prop} [Decidable p] {b : Bool} {l : List IIns} (h1 : p → G x Q (B true) s b d op l ks fr H ms) (h2 : ¬ p → G x Q (B false) s b d op l ks fr H ms) : G x Q (B (decide p)) s b d op l ks fr H ms :=
  G.split (fun h => h1 (of_decide_eq_true h)) fun h => h2 (of_decide_eq_false h)
theorem GE.splitP {base md : Nat} {p : Prop} [Decidable p] {b : Bool} {l : DPlan} (h1 : p → GE x Q base md (B true) s b d op l ks fr H ms) (h2 : ¬ p → GE x Q base md (B false) s b d op l ks fr H ms) : GE x Q base md (B (decide p)) s b d op l ks fr H ms :=
  GE.split (fun h => h1 (of_decide_eq_true h)) fun h => h2 (of_decide_eq_false h)
theorem GS.splitP {base id md : Nat} {p : Prop} [Decidable p] {b : Bool} {l : DPlan} (h1 : p → GS x Q base id md (B true) s b d op l ks fr H ms) (h2 : ¬ p → GS x Q base id md (B false) s b d op l ks fr H ms) : GS x Q base id md (B (decide p)) s b d op l ks fr H ms :=
  GS.split (fun h => h1 (of_decide_eq_true h)) fun h => h2 (of_decide_eq_false h)
theorem IC.splitP {p : Prop} [Decidable p] {a b : ICode} (h1 : p → W x Q a ks fr H ms) (h2 : ¬ p → W x Q b ks fr H ms) : IC x Q (B (decide p)) a b ks fr H ms :=
  IC.split (fun h => h1 (of_decide_eq_true h)) fun h => h2 (of_decide_eq_false h)
/-! Integers that are known. -/
theorem xft : (false ^^ true) = true := rfl
theorem xff : (false ^^ false) = false := rfl
theorem xtt : (true ^^ true) = false := rfl
theorem xtf : (true ^^ false) = true := rfl
theorem z00 : ((0 : Int) != 0) = false := rfl
theorem z20 : ((2 : Int) != 0) = true := rfl
theorem z22 : ((2 : Int) == 2) = true := rfl
theorem z02 : ((0 : Int) == 2) = false := rfl
theorem tn0 : Int.toNat 0 = 0 := rfl
theorem zz : ((0 : Int) == 0) = true := rfl
end
theorem leafO {t : Nat} {e : Ex} {fr : Fr} {H : AHeap} {R : AVal → AHeap → Prop} (v : AVal) (H2 : AHeap) (ρ : List (Option Nat)) (hw : Wk 0 [] ρ [(0,fr.get t)] H [(0,v)] H2) (hR : R v H2) (he : e = .norm ∨ e = .ret := by simp) : retA 0 [.tmp t] R e fr H [] :=
  ⟨he,by simp only [killM,resL,resA]; exact ⟨⟨trivial,trivial⟩,ρ,v,H2,hw,hR⟩⟩
theorem liftV {P : Program} {f : FuncId} {args : List AVal} {v : AVal} (h : Spec P f args [] fun v' H' => H' = [] ∧ v' = v) (ha : bndL 0 args = true) (hv : v.bnd 0 = true) (H : AHeap) : CallV P (.fn (.func f) [] []) args H fun v' H' => v' = v ∧ H' = H :=
  CallV.of_spec (first := []) (cap := []) (by rw [List.append_nil]; exact Spec.lift h ha hv H)
theorem set_put {α : Type} {l : List α} {i : Nat} (h : i < l.length) (v : α) : l.take i ++ [v] ++ l.drop (i + 1) = l.set i v := by
  rw [List.set_eq_take_append_cons_drop,if_pos h]; simp
theorem leafC {ag : Bool} {k t : Nat} {e : Ex} {fr : Fr} {H : AHeap} {R : AVal → AHeap → Prop} (u v : AVal) {p : Prop} (h : loadA ag k (fr.get t) H = some (p,u)) (hp : p) (hv : vle H [] [] 3 u v) (hR : R v []) (he : e = .norm ∨ e = .ret := by simp) : retA 0 [.cell ag k t] R e fr H [] :=
  retA_nil he (p := p ∧ True) (vs := [u]) (by simp [resL,resA,h]) ⟨hp,trivial⟩ hv hR
theorem leafCT {ag : Bool} {k t t' : Nat} {e : Ex} {fr : Fr} {H : AHeap} {R : AVal → AHeap → Prop} (u v : AVal) {p : Prop} (h : loadA ag k (fr.get t) H = some (p,u)) (hp : p) (hv : vle H [] [] 3 (.tup [u,fr.get t']) v) (hR : R v []) (he : e = .norm ∨ e = .ret := by simp) : retA 0 [.cell ag k t,.tmp t'] R e fr H [] :=
  retA_nil he (p := p ∧ True ∧ True) (vs := [u,fr.get t']) (by simp [resL,resA,h]) ⟨hp,trivial,trivial⟩ hv hR
end Go.Abs
