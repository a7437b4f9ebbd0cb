/-
  No cell of these rows narrows 'for every input' (looked for: loops, veiled, ifaces, maps, wideKeys, modest, calm, conditions, laid).
  DERIVED. THE GIVEN ROWS OF THIS SEAT. 3 by the template 'for every input the law returns true; each argument reads behind the call as it read before'; 0 by the template 'total and deterministic' (their statements: YtlonaefihjdkpaaTotals.lean).
  GIVEN WITH THE SEED: the statements are not yours to turn. If you find one false, say at which input.
  Laid BY PROGRAM, IN A SANDBOX (cutbox-rows.mjs): the forced cells as the released guide's own fill.sh prints them over the translation bcb6c76b83a2af4b… (all of the seat's roots in one cut). By AI agents, Wed Nov 11 2026. No macro, syntax, notation, axiom, sorry.
-/
import Derived.Test.YtlonaefihjdkpaaChecked
import GoSem.Claim
import GoSem.ClaimJoined
import GoSem.ClaimMapViews
import Derived.JoinedTies
import Derived.KernelRfl
namespace Go.Proofs.Ytlonaefihjdkpaa
/- THE CELL 'sum', in the pinned program and in every row, IS THE sha256 OF THE DUMP (.gsa) THAT YtlonaefihjdkpaaProg.lean LOADS. Nothing in Lean hashes anything: it is a label: what it is worth is what the hold of that sum in a sandbox is worth. -/
noncomputable def Try.pinned : Pinned := { name := "ytlonaefihjdkpaa", sum := "bcb6c76b83a2af4b2c6eba43015285c1aef64f2cd1ba5e43aa04cf1f8773c4bd", checked := Try.checked }
namespace Rows
def none {H : Type} : Left H := { results := [], args := [] }

/-- 'comfittop.TopPoint': WHATEVER THE INPUT: true; the input reads as it did. -/
def topPointSpec : ChangeSpec := { name := "topPoint", fn := fun _ => fun
  | [d] => { results := [.lit (.bool true)], args := [d] }
  | _ => none }
def topPointRow : OpenClaim := { program := "ytlonaefihjdkpaa", sum := "bcb6c76b83a2af4b2c6eba43015285c1aef64f2cd1ba5e43aa04cf1f8773c4bd", func := "comfit/comfittop.TopPoint", spec := "topPoint", inPlace := ["internal/bytealg.IndexByteString"], unfollowed := true, recurses := true, plainKeys := false, apart := false }
def TopPointSaid : Prop := topPointRow.holds Try.pinned (OpenSpec.ofChange topPointSpec)

/-- ITS FALSE NEIGHBOUR: 'it returns false'. Refute it at one input. -/
def topPointWrong : ChangeSpec := { name := "topPoint", fn := fun _ => fun
  | [d] => { results := [.lit (.bool false)], args := [d] }
  | _ => none }
def TopPointWrongFalsely : Prop := topPointRow.holds Try.pinned (OpenSpec.ofChange topPointWrong)

/-- 'comfittop.TopAround': WHATEVER THE INPUT: true; the input reads as it did. -/
def topAroundSpec : ChangeSpec := { name := "topAround", fn := fun _ => fun
  | [d] => { results := [.lit (.bool true)], args := [d] }
  | _ => none }
def topAroundRow : OpenClaim := { program := "ytlonaefihjdkpaa", sum := "bcb6c76b83a2af4b2c6eba43015285c1aef64f2cd1ba5e43aa04cf1f8773c4bd", func := "comfit/comfittop.TopAround", spec := "topAround", inPlace := ["internal/bytealg.IndexByteString"], unfollowed := true, recurses := true, plainKeys := false, apart := false }
def TopAroundSaid : Prop := topAroundRow.holds Try.pinned (OpenSpec.ofChange topAroundSpec)

/-- ITS FALSE NEIGHBOUR: 'it returns false'. Refute it at one input. -/
def topAroundWrong : ChangeSpec := { name := "topAround", fn := fun _ => fun
  | [d] => { results := [.lit (.bool false)], args := [d] }
  | _ => none }
def TopAroundWrongFalsely : Prop := topAroundRow.holds Try.pinned (OpenSpec.ofChange topAroundWrong)

/-- 'comfittop.TopMany': WHATEVER THE INPUT: true; the input reads as it did. -/
def topManySpec : ChangeSpec := { name := "topMany", fn := fun _ => fun
  | [d1, d2] => { results := [.lit (.bool true)], args := [d1, d2] }
  | _ => none }
def topManyRow : OpenClaim := { program := "ytlonaefihjdkpaa", sum := "bcb6c76b83a2af4b2c6eba43015285c1aef64f2cd1ba5e43aa04cf1f8773c4bd", func := "comfit/comfittop.TopMany", spec := "topMany", unfollowed := true, recurses := true, plainKeys := false, apart := false }
def TopManySaid : Prop := topManyRow.holds Try.pinned (OpenSpec.ofChange topManySpec)

/-- ITS FALSE NEIGHBOUR: 'it returns false'. Refute it at one input. -/
def topManyWrong : ChangeSpec := { name := "topMany", fn := fun _ => fun
  | [d1, d2] => { results := [.lit (.bool false)], args := [d1, d2] }
  | _ => none }
def TopManyWrongFalsely : Prop := topManyRow.holds Try.pinned (OpenSpec.ofChange topManyWrong)

/- THE SECOND FORM. 'bulk': how many values and letters a reading holds, each counted each time it is reached (what is shared counts as often as it is met; a slice's spare places count too). A statement '..UptoSaid' is the law's where the arguments, and the package variables that the reading takes, are together of bulk at most 1048576: NARROWER than '..Said'. Prove '..Said' where nothing that the law and all that it calls make is longer than what came in: it says more and counts as full. Else prove '..UptoSaid'. A law counts once. -/
mutual
def uptoBulk {H : Type} : DataW H → Nat
  | .lit (.string bytes) => bytes.length + 1
  | .lit _ => 1
  | .nil => 1
  | .ptr d => uptoBulk d + 1
  | .slice elems spare => uptoBulkAll elems + uptoBulkAll spare + 1
  | .agg parts => uptoBulkAll parts + 1
  | .iface _ d => uptoBulk d + 1
  | .map entries => uptoBulkEntries entries + 1
  | .held _ => 1
def uptoBulkAll {H : Type} : List (DataW H) → Nat
  | [] => 0
  | d :: r => uptoBulk d + uptoBulkAll r
def uptoBulkEntries {H : Type} : List (Lit × DataW H) → Nat
  | [] => 0
  | x :: r => uptoBulkEntry x + uptoBulkEntries r
def uptoBulkEntry {H : Type} : Lit × DataW H → Nat
  | (.string bytes, d) => bytes.length + uptoBulk d + 1
  | (_, d) => uptoBulk d + 1
 end
def uptoSmall : (H : Type) → List (DataW H) → Bool := fun _ ds => decide (uptoBulkAll ds ≤ 1048576)
def OpenSpec.upto (s : _root_.Go.ChangeSpec) : _root_.Go.OpenSpec := { _root_.Go.OpenSpec.ofChange s with cond := some uptoSmall }

/-- 'comfittop.TopPoint', WHERE WHAT IT READS IS OF BULK AT MOST 1048576: true; the input reads as it did. -/
def topPointUptoRow : OpenClaim := { program := "ytlonaefihjdkpaa", sum := "bcb6c76b83a2af4b2c6eba43015285c1aef64f2cd1ba5e43aa04cf1f8773c4bd", func := "comfit/comfittop.TopPoint", spec := "topPoint", inPlace := ["internal/bytealg.IndexByteString"], unfollowed := true, recurses := true, plainKeys := false, apart := false, narrowed := true }
def TopPointUptoSaid : Prop := topPointUptoRow.holds Try.pinned (OpenSpec.upto topPointSpec)

/-- 'comfittop.TopAround', WHERE WHAT IT READS IS OF BULK AT MOST 1048576: true; the input reads as it did. -/
def topAroundUptoRow : OpenClaim := { program := "ytlonaefihjdkpaa", sum := "bcb6c76b83a2af4b2c6eba43015285c1aef64f2cd1ba5e43aa04cf1f8773c4bd", func := "comfit/comfittop.TopAround", spec := "topAround", inPlace := ["internal/bytealg.IndexByteString"], unfollowed := true, recurses := true, plainKeys := false, apart := false, narrowed := true }
def TopAroundUptoSaid : Prop := topAroundUptoRow.holds Try.pinned (OpenSpec.upto topAroundSpec)

/-- 'comfittop.TopMany', WHERE WHAT IT READS IS OF BULK AT MOST 1048576: true; the input reads as it did. -/
def topManyUptoRow : OpenClaim := { program := "ytlonaefihjdkpaa", sum := "bcb6c76b83a2af4b2c6eba43015285c1aef64f2cd1ba5e43aa04cf1f8773c4bd", func := "comfit/comfittop.TopMany", spec := "topMany", unfollowed := true, recurses := true, plainKeys := false, apart := false, narrowed := true }
def TopManyUptoSaid : Prop := topManyUptoRow.holds Try.pinned (OpenSpec.upto topManySpec)

end Rows
end Go.Proofs.Ytlonaefihjdkpaa
