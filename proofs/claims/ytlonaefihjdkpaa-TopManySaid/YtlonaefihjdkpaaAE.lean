/- From the model's arguments to abstract values,and from a contract to the model's call. -/
import Derived.Test.YtlonaefihjdkpaaAP
import Derived.Below
namespace Go.Abs
open AVal
abbrev env0 (w : World) : Env := env (fun _ => none) (fun _ => False) [] w
theorem simH0 (w : World) : SimH (fun _ => none) (fun _ => False) [] w :=
  ⟨fun _ h => h.elim,fun i _ b _ _ hi => by simp at hi,fun i b r hi => by simp at hi,fun i b hi => by simp at hi⟩
theorem Spec.calls {P : Program} {f : FuncId} {args : List AVal} {rv : Value} (h : Spec P f args [] fun v' H' => H' = [] ∧ v' = .val rv) {w : World} {rargs : Array Value} (hr : CRep (env0 w) args rargs) :
    Calls P f rargs w fun e w' => e = .returned rv ∧ RowKit.Below w.heap.size w w' := by
  refine callsIn_wide.1 ((h.2 _ _ w rargs (simH0 w) hr).mono fun e w' ⟨rv',he,v',H',φ',⟨h1,h2⟩,h3,h4,h5⟩ => ?_)
  subst h1 h2
  obtain rfl : rv' = rv := h5.inv_val
  exact ⟨he,h4.os,h4.tape,h4.output,h4.size,fun k hk => h4.frame k hk nil_owned⟩
end Go.Abs
