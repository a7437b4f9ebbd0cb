/- TopAround: from every collector on a circle of a net there is a way without end; where there is none from anybody,no swaps help. -/
import Derived.Test.YtlonaefihjdkpaaRows
import Derived.Test.YtlonaefihjdkpaaVJ
import Derived.Test.YtlonaefihjdkpaaAE
import Derived.WalkKit
import Derived.ProofKit
import Derived.OpenShut
import Derived.ShutString
import Derived.ChangeOld
import Derived.Below
import Derived.SizedLaws
import Derived.Deep.Matrix
namespace Go.Proofs.Ytlonaefihjdkpaa.topAround
open Go.ChangeShapes Go.WideShapes Go.ChangeAt Go.RowKit
open Go.Abs (Spec.calls rep_row AVal)
theorem own : ownKnob Try.prog.godebug = none := by kernel_rfl
theorem laidOut : laidOutB Try.prog = true := by kernel_rfl
set_option maxRecDepth 100000 in
theorem lifted (os : Os) (started : os.Started) (H : Type) (enc : TypeId × Value → H) :
    ReturnsInHanded {} Try.checked os 4 .any (Rows.topAroundSpec.pre6 enc Try.prog Try.f4 Rows.topAroundRow.domain false) (Rows.topAroundSpec.post enc Try.prog Try.f4 false true false false) := by
  refine returnsInHanded_of_change_sized (C := Try.checked) own started (by kernel_rfl) Try.func4
    (ChangeSpec.witness6 (enc := enc) (C := Try.checked) false ⟨#[],#[.slice none 0 0],[]⟩ 8 (by kernel_rfl) (by kernel_rfl) (by kernel_rfl) (by kernel_rfl)) ?_
  intro W base args ds gs before hval0 hW hcnd hsz0 _
  have hval : ∀ (j : Nat) t v,Try.f4.params[j]? = some t → args[j]? = some v → Value.okWide Try.prog W .any base t v := hval0
  have hW' := hW
  obtain ⟨p,q,hA0,hV,rfl,hfz,hnd⟩ := hW
  have hA : DataW.TrodAll enc Try.prog W 0 (fun _ => true) true Try.f4.params.toList args.toList ds p := hA0
  rw [Try.params4] at hA hval
  obtain ⟨v0,vs0,d0,ds0,p0,q0,hargs,rfl,rfl,h0,r0⟩ := trodAll_cons hA
  obtain ⟨rfl,rfl,rfl⟩ := trodAll_nil r0
  obtain rfl : args = #[v0] := by cases args; simp_all
  obtain ⟨rfl,rfl⟩ := trodVars_none hV
  obtain ⟨a0,len0,cap0,rfl⟩ := okWide_slice Try.underlying23 (hval 0 23 v0 rfl rfl)
  have k0 := h0
  have lt0 : ∀ x ∈ p0,x.block < W.heap.size := by obtain ⟨m,hm⟩ := k0; exact DataW.trod_lt m _ _ _ hm
  have hopen0 : ∃ x : List Int,Abs.Rep (Abs.env0 W) (.sl false false (Abs.mI x)) (.slice a0 len0 cap0) ∧ x.length ≤ maxLen := by
    obtain ⟨fuel,hf⟩ := h0
    rcases open_ints Try.underlying23 Try.underlying3 (by kernel_rfl) hf with ⟨hcs,_⟩ | ⟨a,l,c,zs,hcs,_,hl,hm,hz,_,hcell,_⟩
    · simp [Value.cells] at hcs
      obtain ⟨rfl,rfl,rfl⟩ := hcs
      exact ⟨[],.slnil _,Nat.zero_le _⟩
    · simp [Value.cells] at hcs
      obtain ⟨rfl,rfl,rfl⟩ := hcs
      simp only [if_true] at hz
      refine ⟨_,rep_row (Z := zs) hl hz (fun h => by cases h) (fun a' ha c hc => ?_),by simp; omega⟩
      cases ha
      exact hcell c (by omega)
  obtain ⟨x0,hrep0,hxl0⟩ := hopen0
  have hmax : maxLen < 9223372036854775808 := by decide
  refine (Spec.calls (args := [.sl false false (Abs.mI x0)]) (law4 x0 (by omega)) ⟨rfl,fun j u hu => ?_⟩).mono fun e W' ⟨he,bel⟩ => ?_
  · match j,hu with
    | 0,hu => simp at hu; subst hu; exact hrep0
    | j + 1,hu => simp at hu
  subst he
  exact ⟨_,rfl,_,_,_,[],_,[],hW',trodAll_mk1 (shut_bool Try.underlying4 _),(trodAll_cons_mk (Below.trod laidOut (by kernel_rfl) (of_decide_eq_true (by kernel_rfl)) k0 bel lt0) trodAll_mk0),rfl,bel.frame _,fun h => by cases h⟩
theorem over : Rows.topAroundRow.holds Try.pinned (OpenSpec.ofChange Rows.topAroundSpec) :=
  OpenClaim.holds_of_wide 4 Try.f4 rfl rfl rfl rfl rfl rfl rfl ⟨rfl,rfl,rfl,rfl,rfl⟩ rfl rfl rfl rfl rfl (by kernel_rfl) Try.func4 (by kernel_rfl)
    (of_decide_eq_true (by kernel_rfl)) (by unfold Func.isWrapper; first | (rw [if_pos (by decide +kernel)]; kernel_rfl) | (rw [if_neg (by decide +kernel)]; exact ⟨rfl,rfl⟩))
    (fun os started H enc _ => lifted os started H enc)
theorem proved : Rows.TopAroundSaid := over
#print axioms proved
end Go.Proofs.Ytlonaefihjdkpaa.topAround
