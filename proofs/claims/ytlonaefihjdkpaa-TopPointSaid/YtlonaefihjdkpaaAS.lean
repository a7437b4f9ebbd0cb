/- Ranges over functions,walked; states kept as they are; Some of what is owned is given away,the rest stays. -/
import Derived.Test.YtlonaefihjdkpaaAG
namespace Go.Abs
open AVal
section
variable {x : Cx} {Q : QT} {ks : List Kont} {fr : Fr} {H : AHeap} {ms : List Nat}
end
end Go.Abs
namespace Go.Abs
open AVal
section
variable {P : Program}
end
section
variable {P : Program}
theorem Rep.int_inv {E : Env} {z : Int} {v : Value} (h : Rep E (I z) v) : v = .int .i64 z := by
  cases h; rfl
theorem Spec.lendInts {f : FuncId} {args args' : List AVal} {lb : Nat} {xs : List Int} (h : Spec P f args' [] fun v' H' => v' = .own 0 0 xs.length lb 1 ∧ H' = [.cells (mI xs)]) {H : AHeap} (ha : vle.vleL H [] [] 3 args args') :
    Spec P f args H fun v' H' => v' = .sl false false (mI xs) ∧ H' = H := by
  refine ⟨h.1,fun φ G w rargs hs hr => ?_⟩
  have hE : WkE φ G H [] w [] := ⟨hs,rfl,fun i => by simp,fun i b hi => by simp at hi,List.nodup_nil⟩
  have hs0 : SimH (wkφ φ []) G [] w := ⟨hs.glt,fun i _ b _ _ hi => by simp at hi,fun i b r hi => by simp at hi,fun i b hi => by simp at hi⟩
  obtain ⟨hlen,hget⟩ := vleL_get ha
  have hc : CRep (env (wkφ φ []) G [] w) args' rargs := ⟨by rw [← hlen]; exact hr.1,fun j u hu => by
    have hj : j < args.length := by rw [hlen]; exact (List.getElem?_eq_some_iff.1 hu).1
    exact vle_sound hE 3 args[j] u _ (hget j _ u (by simp [hj]) hu) (hr.2 j _ (by simp [hj]))⟩
  refine (h.2 _ G w rargs hs0 hc).mono fun e w' ⟨rv,he,v',H',φ1,⟨h1,h2⟩,h3,h4,h5⟩ => ?_
  subst h1 h2
  have hf : ∀ r,r < w.heap.size → w'.heap[r]? = w.heap[r]? := fun r hr => h4.frame r hr nil_owned
  refine ⟨rv,he,_,H,φ,⟨rfl,rfl⟩,sim_same hs h4.size hf,⟨fun _ _ => rfl,fun _ _ h => h,fun h => h,fun _ h => .inl h,fun r hr _ => hf r hr,h4.shape,h4.size,h4.os,h4.tape,h4.output,h4.drawn⟩,?_⟩
  generalize hxl : xs.length = len at h5
  cases h5 with
  | ownnil i k a hi h9 =>
    have : xs = [] := List.eq_nil_of_length_eq_zero hxl
    subst this
    cases a with
    | none => exact .slnil _
    | some p => exact .sl0 false _
  | own i off len lb k r cap c e hi h9 hc9 hs9 hlb hl =>
    subst hxl
    have hfresh : w.heap.size ≤ r := by
      rcases h4.own r ⟨0,.cells (mI xs),rfl,rfl,h9⟩ with h | h
      · exact absurd h nil_owned
      · exact h
    have hE1 : WkE φ1 G [.cells (mI xs)] [] w' [] := ⟨h3,rfl,fun i => by simp,fun i b hi => by simp at hi,List.nodup_nil⟩
    have h9' : φ1 0 = some r := h9
    refine Rep.mk_sl (k := 1) (mI_length).symm Nat.one_pos (fun _ hX => ?_) (by rw [mI_length]; exact hl) (fun h => by cases h) (fun i e he => ?_) (fun i e he j u hu => ?_)
    · rcases hX with hX | ⟨i,b,hi,hb,hφ⟩
      · have := hs.glt r hX; omega
      · have := hs.lt hi hb hφ; omega
    · obtain ⟨z,_,rfl⟩ := List.mem_map.1 (List.mem_of_getElem? he); rfl
    · obtain ⟨z,_,rfl⟩ := List.mem_map.1 (List.mem_of_getElem? he)
      cases j with
      | zero =>
        have hu : u = I z := by simpa [AVal.cells] using hu.symm
        subst hu
        obtain ⟨x,hx,hxr⟩ := hE1.blockCells (i := 0) rfl h9' i (I z) he
        refine ⟨x,?_,hxr.int_inv ▸ .val _⟩
        show w'.cell? _ = _
        simpa using hx
      | succ j => simp [AVal.cells] at hu
end
end Go.Abs
