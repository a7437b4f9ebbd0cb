/- Circles returns all circles of a net,Swaps those that help the most,and CheckSwaps how many some help,or the documented error. -/
import Derived.Test.YtkmmngphcodjjaaRows
import Derived.Test.YtkmmngphcodjjaaQJ
import Derived.Test.YtkmmngphcodjjaaAE
import Derived.WalkKit
import Derived.ProofKit
import Derived.OpenShut
import Derived.ShutString
import Derived.ChangeOld
import Derived.Below
import Derived.SizedLaws
import Derived.Deep.Matrix
namespace Go.Proofs.Ytkmmngphcodjjaa.swapsNets
open Go.ChangeShapes Go.WideShapes Go.ChangeAt Go.RowKit
open Go.Abs (Spec.calls rep_rows rep_row AVal)
theorem own : ownKnob Try.prog.godebug = none := by kernel_rfl
theorem laidOut : laidOutB Try.prog = true := by kernel_rfl
set_option maxRecDepth 100000 in
theorem lifted (os : Os) (started : os.Started) (H : Type) (enc : TypeId × Value → H) :
    ReturnsInHanded {} Try.checked os 14 .any (Rows.swapsNetsSpec.pre6 enc Try.prog Try.f14 Rows.swapsNetsRow.domain false) (Rows.swapsNetsSpec.post enc Try.prog Try.f14 false true false false) := by
  refine returnsInHanded_of_change_sized (C := Try.checked) own started (by kernel_rfl) Try.func14
    (ChangeSpec.witness6 (enc := enc) (C := Try.checked) false ⟨#[],#[.slice none 0 0,.slice none 0 0],[]⟩ 8 (by kernel_rfl) (by kernel_rfl) (by kernel_rfl) (by kernel_rfl)) ?_
  intro W base args ds gs before hval0 hW hcnd hsz0 _
  have hval : ∀ (j : Nat) t v,Try.f14.params[j]? = some t → args[j]? = some v → Value.okWide Try.prog W .any base t v := hval0
  have hW' := hW
  obtain ⟨p,q,hA0,hV,rfl,hfz,hnd⟩ := hW
  have hA : DataW.TrodAll enc Try.prog W 0 (fun _ => true) true Try.f14.params.toList args.toList ds p := hA0
  rw [Try.params14] at hA hval
  obtain ⟨v0,vs0,d0,ds0,p0,q0,hargs,rfl,rfl,h0,r0⟩ := trodAll_cons hA
  obtain ⟨v1,vs1,d1,ds1,p1,q1,rfl,rfl,rfl,h1,r1⟩ := trodAll_cons r0
  obtain ⟨rfl,rfl,rfl⟩ := trodAll_nil r1
  obtain rfl : args = #[v0,v1] := by cases args; simp_all
  obtain ⟨rfl,rfl⟩ := trodVars_none hV
  obtain ⟨a0,len0,cap0,rfl⟩ := okWide_slice Try.underlying23 (hval 0 23 v0 rfl rfl)
  have k0 := h0
  have lt0 : ∀ x ∈ p0,x.block < W.heap.size := by obtain ⟨m,hm⟩ := k0; exact DataW.trod_lt m _ _ _ hm
  have hopen0 : ∃ x : List Int,Abs.Rep (Abs.env0 W) (.sl false false (Abs.mI x)) (.slice a0 len0 cap0) ∧ x.length ≤ maxLen := by
    obtain ⟨fuel,hf⟩ := h0
    rcases open_ints Try.underlying23 Try.underlying3 (by kernel_rfl) hf with ⟨hcs,_⟩ | ⟨a,l,c,zs,hcs,_,hl,hm,hz,_,hcell,_⟩
    · simp [Value.cells] at hcs
      obtain ⟨rfl,rfl,rfl⟩ := hcs
      exact ⟨[],.slnil _,Nat.zero_le _⟩
    · simp [Value.cells] at hcs
      obtain ⟨rfl,rfl,rfl⟩ := hcs
      simp only [if_true] at hz
      refine ⟨_,rep_row (Z := zs) hl hz (fun h => by cases h) (fun a' ha c hc => ?_),by simp; omega⟩
      cases ha
      exact hcell c (by omega)
  obtain ⟨x0,hrep0,hxl0⟩ := hopen0
  obtain ⟨a1,len1,cap1,rfl⟩ := okWide_slice Try.underlying22 (hval 1 22 v1 rfl rfl)
  have k1 := h1
  have lt1 : ∀ x ∈ p1,x.block < W.heap.size := by obtain ⟨m,hm⟩ := k1; exact DataW.trod_lt m _ _ _ hm
  have hopen1 : ∃ w : List (List Int),Abs.Rep (Abs.env0 W) (.sl false false (Abs.mS w)) (.slice a1 len1 cap1) ∧ w.length ≤ maxLen ∧ ∀ l ∈ w,l.length ≤ maxLen := by
    obtain ⟨fuel,hf⟩ := h1
    rcases Deep.open_int_rows Try.underlying22 Try.underlying23 Try.underlying3 (by kernel_rfl) (by kernel_rfl) hf with ⟨hcs,_⟩ | ⟨a,l,c,A,L,C,Z,hcs,_,hl,hm,_,hrow⟩
    · simp [Value.cells] at hcs
      obtain ⟨rfl,rfl,rfl⟩ := hcs
      exact ⟨[],.slnil _,Nat.zero_le _,by simp⟩
    · simp [Value.cells] at hcs
      obtain ⟨rfl,rfl,rfl⟩ := hcs
      refine ⟨_,rep_rows (L := L) (C := C) (Z := Z) (A := A) hl (fun r hr => ?_),by simp; omega,fun x hx => ?_⟩
      · obtain ⟨g1,g2,g3,g4,g5,g6,g7⟩ := hrow r hr
        exact ⟨g1,g2,g4,g6,fun a' ha => (g7 a' ha).2⟩
      · obtain ⟨r,hr,rfl⟩ := List.mem_map.1 hx
        have hr := List.mem_range.1 hr
        obtain ⟨g1,g2,g3,g4,g5,g6,g7⟩ := hrow r (by omega)
        simp; omega
  obtain ⟨w1,hrep1,hwl1,hwr1⟩ := hopen1
  have hmax : maxLen < 9223372036854775808 := by decide
  refine (Spec.calls (args := [.sl false false (Abs.mI x0),.sl false false (Abs.mS w1)]) (law14 x0 w1 (by omega) (fun l hl => by have := hwr1 l hl; omega) (by omega)) ⟨rfl,fun j u hu => ?_⟩).mono fun e W' ⟨he,bel⟩ => ?_
  · match j,hu with
    | 0,hu => simp at hu; subst hu; exact hrep0
    | 1,hu => simp at hu; subst hu; exact hrep1
    | j + 2,hu => simp at hu
  subst he
  exact ⟨_,rfl,_,_,_,[],_,[],hW',trodAll_mk1 (shut_bool Try.underlying4 _),(trodAll_cons_mk (Below.trod laidOut (by kernel_rfl) (of_decide_eq_true (by kernel_rfl)) k0 bel lt0) (trodAll_cons_mk (Below.trod laidOut (by kernel_rfl) (of_decide_eq_true (by kernel_rfl)) k1 bel lt1) trodAll_mk0)),rfl,bel.frame _,fun h => by cases h⟩
theorem over : Rows.swapsNetsRow.holds Try.pinned (OpenSpec.ofChange Rows.swapsNetsSpec) :=
  OpenClaim.holds_of_wide 14 Try.f14 rfl rfl rfl rfl rfl rfl rfl ⟨rfl,rfl,rfl,rfl,rfl⟩ rfl rfl rfl rfl rfl (by kernel_rfl) Try.func14 (by kernel_rfl)
    (of_decide_eq_true (by kernel_rfl)) (by unfold Func.isWrapper; first | (rw [if_pos (by decide +kernel)]; kernel_rfl) | (rw [if_neg (by decide +kernel)]; exact ⟨rfl,rfl⟩))
    (fun os started H enc _ => lifted os started H enc)
theorem proved : Rows.SwapsNetsSaid := over
#print axioms proved
end Go.Proofs.Ytkmmngphcodjjaa.swapsNets
