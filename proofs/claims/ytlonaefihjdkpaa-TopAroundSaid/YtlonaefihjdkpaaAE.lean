/- From the model's arguments to abstract values,and from a contract to the model's call. -/
import Derived.Test.YtlonaefihjdkpaaAP
import Derived.Below
namespace Go.Abs
open AVal
abbrev env0 (w : World) : Env := env (fun _ => none) (fun _ => False) [] w
theorem env0_X {w : World} {b : Nat} : ¬ (env0 w).X b := fun h => h.elim (fun h => h) nil_owned
theorem simH0 (w : World) : SimH (fun _ => none) (fun _ => False) [] w :=
  ⟨fun _ h => h.elim,fun i _ b _ _ hi => by simp at hi,fun i b r hi => by simp at hi,fun i b hi => by simp at hi⟩
theorem Spec.calls {P : Program} {f : FuncId} {args : List AVal} {rv : Value} (h : Spec P f args [] fun v' H' => H' = [] ∧ v' = .val rv) {w : World} {rargs : Array Value} (hr : CRep (env0 w) args rargs) :
    Calls P f rargs w fun e w' => e = .returned rv ∧ RowKit.Below w.heap.size w w' := by
  refine callsIn_wide.1 ((h.2 _ _ w rargs (simH0 w) hr).mono fun e w' ⟨rv',he,v',H',φ',⟨h1,h2⟩,h3,h4,h5⟩ => ?_)
  subst h1 h2
  obtain rfl : rv' = rv := h5.inv_val
  exact ⟨he,h4.os,h4.tape,h4.output,h4.size,fun k hk => h4.frame k hk nil_owned⟩
theorem spot_none {w : World} {a : Addr} {v : Value} (h : w.cell? a = some v) : a = ⟨a.block,a.off,none⟩ := by
  obtain ⟨b,off,spot⟩ := a
  unfold World.cell? at h
  split at h
  · split at h
    · cases h
    · rename_i hs; cases spot <;> simp_all
  · cases h
theorem add_at {b off i : Nat} : (⟨b,off,none⟩ : Addr).add i = ⟨b,off + i,none⟩ := by
  unfold Addr.add
  split
  · rename_i h; subst h; rfl
  · rfl
theorem rep_row {w : World} {A : Option Addr} {L C : Nat} {Z : List Int} (h1 : L ≤ C) (hz : Z.length = C) (h0 : A = none → C = 0) (hc : ∀ a',A = some a' → ∀ c,c < C → w.cell? (a'.add c) = some (.int .i64 (Z.getD c 0))) :
    Rep (env0 w) (sI (Z.take L)) (.slice A L C) := by
  cases A with
  | none =>
    have := h0 rfl
    subst this
    obtain rfl : L = 0 := by omega
    exact .slnil _
  | some a =>
    have hc := hc a rfl
    by_cases hC : C = 0
    · subst hC
      obtain rfl : L = 0 := by omega
      exact .sl0 false a
    · have hs := spot_none (a := a) (by have := hc 0 (by omega); simpa [Addr.add] using this)
      generalize a.block = b at hs
      generalize a.off = off at hs
      subst hs
      have hlen : (mI (Z.take L)).length = L := by rw [mI_length,List.length_take]; omega
      refine Rep.mk_sl hlen.symm Nat.one_pos (fun _ => env0_X) (by omega) (fun h => by cases h) (fun i e he => ?_) (fun i e he j u hu => ?_)
      · obtain ⟨z,_,rfl⟩ := List.mem_map.1 (List.mem_of_getElem? he); rfl
      · have hi : i < L := by rw [← hlen]; exact (List.getElem?_eq_some_iff.1 he).1
        have e1 : e = I (Z.getD i 0) := by
          simp only [mI,List.getElem?_map,List.getElem?_take,if_pos hi,List.getElem?_eq_getElem (show i < Z.length by omega),Option.map_some,Option.some.injEq] at he
          rw [← he,List.getD_eq_getElem?_getD,List.getElem?_eq_getElem (show i < Z.length by omega)]; rfl
        subst e1
        cases j with
        | zero =>
          have hu : u = I (Z.getD i 0) := by simpa [AVal.cells] using hu.symm
          subst hu
          refine ⟨_,?_,.val _⟩
          have := hc i (by omega)
          rw [add_at] at this
          show w.cell? _ = _
          simpa using this
        | succ j => simp [AVal.cells] at hu
end Go.Abs
