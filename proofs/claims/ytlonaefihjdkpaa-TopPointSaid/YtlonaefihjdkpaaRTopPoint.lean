/- TopPoint: those who leave in the first round of trading are those who are reached again from the one to whom they point first. -/
import Derived.Test.YtlonaefihjdkpaaRows
import Derived.Test.YtlonaefihjdkpaaVG
import Derived.Test.YtlonaefihjdkpaaAE
import Derived.WalkKit
import Derived.ProofKit
import Derived.OpenShut
import Derived.ShutString
import Derived.ChangeOld
import Derived.Below
import Derived.SizedLaws
import Derived.Deep.Matrix
namespace Go.Proofs.Ytlonaefihjdkpaa.topPoint
open Go.ChangeShapes Go.WideShapes Go.ChangeAt Go.RowKit
open Go.Abs (Spec.calls rep_rows rep_row AVal)
theorem own : ownKnob Try.prog.godebug = none := by kernel_rfl
theorem laidOut : laidOutB Try.prog = true := by kernel_rfl
set_option maxRecDepth 100000 in
theorem lifted (os : Os) (started : os.Started) (H : Type) (enc : TypeId × Value → H) :
    ReturnsInHanded {} Try.checked os 3 .any (Rows.topPointSpec.pre6 enc Try.prog Try.f3 Rows.topPointRow.domain false) (Rows.topPointSpec.post enc Try.prog Try.f3 false true false false) := by
  refine returnsInHanded_of_change_sized (C := Try.checked) own started (by kernel_rfl) Try.func3
    (ChangeSpec.witness6 (enc := enc) (C := Try.checked) false ⟨#[],#[.slice none 0 0],[]⟩ 8 (by kernel_rfl) (by kernel_rfl) (by kernel_rfl) (by kernel_rfl)) ?_
  intro W base args ds gs before hval0 hW hcnd hsz0 _
  have hval : ∀ (j : Nat) t v,Try.f3.params[j]? = some t → args[j]? = some v → Value.okWide Try.prog W .any base t v := hval0
  have hW' := hW
  obtain ⟨p,q,hA0,hV,rfl,hfz,hnd⟩ := hW
  have hA : DataW.TrodAll enc Try.prog W 0 (fun _ => true) true Try.f3.params.toList args.toList ds p := hA0
  rw [Try.params3] at hA hval
  obtain ⟨v0,vs0,d0,ds0,p0,q0,hargs,rfl,rfl,h0,r0⟩ := trodAll_cons hA
  obtain ⟨rfl,rfl,rfl⟩ := trodAll_nil r0
  obtain rfl : args = #[v0] := by cases args; simp_all
  obtain ⟨rfl,rfl⟩ := trodVars_none hV
  obtain ⟨a0,len0,cap0,rfl⟩ := okWide_slice Try.underlying22 (hval 0 22 v0 rfl rfl)
  have k0 := h0
  have lt0 : ∀ x ∈ p0,x.block < W.heap.size := by obtain ⟨m,hm⟩ := k0; exact DataW.trod_lt m _ _ _ hm
  have hopen0 : ∃ w : List (List Int),Abs.Rep (Abs.env0 W) (.sl false false (Abs.mS w)) (.slice a0 len0 cap0) ∧ w.length ≤ maxLen ∧ ∀ l ∈ w,l.length ≤ maxLen := by
    obtain ⟨fuel,hf⟩ := h0
    rcases Deep.open_int_rows Try.underlying22 Try.underlying23 Try.underlying3 (by kernel_rfl) (by kernel_rfl) hf with ⟨hcs,_⟩ | ⟨a,l,c,A,L,C,Z,hcs,_,hl,hm,_,hrow⟩
    · simp [Value.cells] at hcs
      obtain ⟨rfl,rfl,rfl⟩ := hcs
      exact ⟨[],.slnil _,Nat.zero_le _,by simp⟩
    · simp [Value.cells] at hcs
      obtain ⟨rfl,rfl,rfl⟩ := hcs
      refine ⟨_,rep_rows (L := L) (C := C) (Z := Z) (A := A) hl (fun r hr => ?_),by simp; omega,fun x hx => ?_⟩
      · obtain ⟨g1,g2,g3,g4,g5,g6,g7⟩ := hrow r hr
        exact ⟨g1,g2,g4,g6,fun a' ha => (g7 a' ha).2⟩
      · obtain ⟨r,hr,rfl⟩ := List.mem_map.1 hx
        have hr := List.mem_range.1 hr
        obtain ⟨g1,g2,g3,g4,g5,g6,g7⟩ := hrow r (by omega)
        simp; omega
  obtain ⟨w0,hrep0,hwl0,hwr0⟩ := hopen0
  have hmax : maxLen < 9223372036854775808 := by decide
  refine (Spec.calls (args := [.sl false false (Abs.mS w0)]) (law3 w0 (fun l hl => by have := hwr0 l hl; omega) (by omega)) ⟨rfl,fun j u hu => ?_⟩).mono fun e W' ⟨he,bel⟩ => ?_
  · match j,hu with
    | 0,hu => simp at hu; subst hu; exact hrep0
    | j + 1,hu => simp at hu
  subst he
  exact ⟨_,rfl,_,_,_,[],_,[],hW',trodAll_mk1 (shut_bool Try.underlying4 _),(trodAll_cons_mk (Below.trod laidOut (by kernel_rfl) (of_decide_eq_true (by kernel_rfl)) k0 bel lt0) trodAll_mk0),rfl,bel.frame _,fun h => by cases h⟩
theorem over : Rows.topPointRow.holds Try.pinned (OpenSpec.ofChange Rows.topPointSpec) :=
  OpenClaim.holds_of_wide 3 Try.f3 rfl rfl rfl rfl rfl rfl rfl ⟨rfl,rfl,rfl,rfl,rfl⟩ rfl rfl rfl rfl rfl (by kernel_rfl) Try.func3 (by kernel_rfl)
    (of_decide_eq_true (by kernel_rfl)) (by unfold Func.isWrapper; first | (rw [if_pos (by decide +kernel)]; kernel_rfl) | (rw [if_neg (by decide +kernel)]; exact ⟨rfl,rfl⟩))
    (fun os started H enc _ => lifted os started H enc)
theorem proved : Rows.TopPointSaid := over
#print axioms proved
end Go.Proofs.Ytlonaefihjdkpaa.topPoint
