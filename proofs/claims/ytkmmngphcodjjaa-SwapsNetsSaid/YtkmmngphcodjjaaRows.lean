/-
  No cell of these rows narrows 'for every input' (looked for: loops, veiled, ifaces, maps, wideKeys, modest, calm, conditions, laid).
  DERIVED. THE GIVEN ROWS OF THIS SEAT. 12 by the template 'for every input the law returns true; each argument reads behind the call as it read before'; 0 by the template 'total and deterministic' (their statements: YtkmmngphcodjjaaTotals.lean).
  GIVEN WITH THE SEED: the statements are not yours to turn. If you find one false, say at which input.
  Laid BY PROGRAM, IN A SANDBOX (cutbox-rows.mjs): the forced cells as the released guide's own fill.sh prints them over the translation 555c711915402dfc… (all of the seat's roots in one cut). By AI agents, Wed Nov 11 2026. No macro, syntax, notation, axiom, sorry.
-/
import Derived.Test.YtkmmngphcodjjaaChecked
import GoSem.Claim
import GoSem.ClaimJoined
import GoSem.ClaimMapViews
import Derived.JoinedTies
import Derived.KernelRfl
namespace Go.Proofs.Ytkmmngphcodjjaa
/- THE CELL 'sum', in the pinned program and in every row, IS THE sha256 OF THE DUMP (.gsa) THAT YtkmmngphcodjjaaProg.lean LOADS. Nothing in Lean hashes anything: it is a label: what it is worth is what the hold of that sum in a sandbox is worth. -/
noncomputable def Try.pinned : Pinned := { name := "ytkmmngphcodjjaa", sum := "555c711915402dfcaa9e80f53ae542dff76e15caa876e4307112b51d271b5972", checked := Try.checked }
namespace Rows
def none {H : Type} : Left H := { results := [], args := [] }

/-- 'comfitlaw09.SwapsTrades': WHATEVER THE INPUT: true; the input reads as it did. -/
def swapsTradesSpec : ChangeSpec := { name := "swapsTrades", fn := fun _ => fun
  | [d] => { results := [.lit (.bool true)], args := [d] }
  | _ => none }
def swapsTradesRow : OpenClaim := { program := "ytkmmngphcodjjaa", sum := "555c711915402dfcaa9e80f53ae542dff76e15caa876e4307112b51d271b5972", func := "comfit/comfitlaw09.SwapsTrades", spec := "swapsTrades", unfollowed := true, recurses := true, apart := false }
def SwapsTradesSaid : Prop := swapsTradesRow.holds Try.pinned (OpenSpec.ofChange swapsTradesSpec)

/-- ITS FALSE NEIGHBOUR: 'it returns false'. Refute it at one input. -/
def swapsTradesWrong : ChangeSpec := { name := "swapsTrades", fn := fun _ => fun
  | [d] => { results := [.lit (.bool false)], args := [d] }
  | _ => none }
def SwapsTradesWrongFalsely : Prop := swapsTradesRow.holds Try.pinned (OpenSpec.ofChange swapsTradesWrong)

/-- 'comfitlaw09.SwapsRounds': WHATEVER THE INPUT: true; the input reads as it did. -/
def swapsRoundsSpec : ChangeSpec := { name := "swapsRounds", fn := fun _ => fun
  | [d] => { results := [.lit (.bool true)], args := [d] }
  | _ => none }
def swapsRoundsRow : OpenClaim := { program := "ytkmmngphcodjjaa", sum := "555c711915402dfcaa9e80f53ae542dff76e15caa876e4307112b51d271b5972", func := "comfit/comfitlaw09.SwapsRounds", spec := "swapsRounds", unfollowed := true, recurses := true, apart := false }
def SwapsRoundsSaid : Prop := swapsRoundsRow.holds Try.pinned (OpenSpec.ofChange swapsRoundsSpec)

/-- ITS FALSE NEIGHBOUR: 'it returns false'. Refute it at one input. -/
def swapsRoundsWrong : ChangeSpec := { name := "swapsRounds", fn := fun _ => fun
  | [d] => { results := [.lit (.bool false)], args := [d] }
  | _ => none }
def SwapsRoundsWrongFalsely : Prop := swapsRoundsRow.holds Try.pinned (OpenSpec.ofChange swapsRoundsWrong)

/-- 'comfitlaw09.SwapsLies': WHATEVER THE INPUT: true; the input reads as it did. -/
def swapsLiesSpec : ChangeSpec := { name := "swapsLies", fn := fun _ => fun
  | [d1, d2, d3] => { results := [.lit (.bool true)], args := [d1, d2, d3] }
  | _ => none }
def swapsLiesRow : OpenClaim := { program := "ytkmmngphcodjjaa", sum := "555c711915402dfcaa9e80f53ae542dff76e15caa876e4307112b51d271b5972", func := "comfit/comfitlaw09.SwapsLies", spec := "swapsLies", unfollowed := true, recurses := true, apart := false }
def SwapsLiesSaid : Prop := swapsLiesRow.holds Try.pinned (OpenSpec.ofChange swapsLiesSpec)

/-- ITS FALSE NEIGHBOUR: 'it returns false'. Refute it at one input. -/
def swapsLiesWrong : ChangeSpec := { name := "swapsLies", fn := fun _ => fun
  | [d1, d2, d3] => { results := [.lit (.bool false)], args := [d1, d2, d3] }
  | _ => none }
def SwapsLiesWrongFalsely : Prop := swapsLiesRow.holds Try.pinned (OpenSpec.ofChange swapsLiesWrong)

/-- 'comfitlaw09.SwapsHonest': WHATEVER THE INPUT: true; the input reads as it did. -/
def swapsHonestSpec : ChangeSpec := { name := "swapsHonest", fn := fun _ => fun
  | [d1, d2, d3] => { results := [.lit (.bool true)], args := [d1, d2, d3] }
  | _ => none }
def swapsHonestRow : OpenClaim := { program := "ytkmmngphcodjjaa", sum := "555c711915402dfcaa9e80f53ae542dff76e15caa876e4307112b51d271b5972", func := "comfit/comfitlaw09.SwapsHonest", spec := "swapsHonest", unfollowed := true, recurses := true, apart := false }
def SwapsHonestSaid : Prop := swapsHonestRow.holds Try.pinned (OpenSpec.ofChange swapsHonestSpec)

/-- ITS FALSE NEIGHBOUR: 'it returns false'. Refute it at one input. -/
def swapsHonestWrong : ChangeSpec := { name := "swapsHonest", fn := fun _ => fun
  | [d1, d2, d3] => { results := [.lit (.bool false)], args := [d1, d2, d3] }
  | _ => none }
def SwapsHonestWrongFalsely : Prop := swapsHonestRow.holds Try.pinned (OpenSpec.ofChange swapsHonestWrong)

/-- 'comfitlaw09.SwapsTurns': WHATEVER THE INPUT: true; the input reads as it did. -/
def swapsTurnsSpec : ChangeSpec := { name := "swapsTurns", fn := fun _ => fun
  | [d1, d2, d3] => { results := [.lit (.bool true)], args := [d1, d2, d3] }
  | _ => none }
def swapsTurnsRow : OpenClaim := { program := "ytkmmngphcodjjaa", sum := "555c711915402dfcaa9e80f53ae542dff76e15caa876e4307112b51d271b5972", func := "comfit/comfitlaw09.SwapsTurns", spec := "swapsTurns", unfollowed := true, recurses := true, apart := false }
def SwapsTurnsSaid : Prop := swapsTurnsRow.holds Try.pinned (OpenSpec.ofChange swapsTurnsSpec)

/-- ITS FALSE NEIGHBOUR: 'it returns false'. Refute it at one input. -/
def swapsTurnsWrong : ChangeSpec := { name := "swapsTurns", fn := fun _ => fun
  | [d1, d2, d3] => { results := [.lit (.bool false)], args := [d1, d2, d3] }
  | _ => none }
def SwapsTurnsWrongFalsely : Prop := swapsTurnsRow.holds Try.pinned (OpenSpec.ofChange swapsTurnsWrong)

/-- 'comfitlaw09.SwapsRenamed': WHATEVER THE INPUT: true; the input reads as it did. -/
def swapsRenamedSpec : ChangeSpec := { name := "swapsRenamed", fn := fun _ => fun
  | [d1, d2] => { results := [.lit (.bool true)], args := [d1, d2] }
  | _ => none }
def swapsRenamedRow : OpenClaim := { program := "ytkmmngphcodjjaa", sum := "555c711915402dfcaa9e80f53ae542dff76e15caa876e4307112b51d271b5972", func := "comfit/comfitlaw09.SwapsRenamed", spec := "swapsRenamed", unfollowed := true, recurses := true, apart := false }
def SwapsRenamedSaid : Prop := swapsRenamedRow.holds Try.pinned (OpenSpec.ofChange swapsRenamedSpec)

/-- ITS FALSE NEIGHBOUR: 'it returns false'. Refute it at one input. -/
def swapsRenamedWrong : ChangeSpec := { name := "swapsRenamed", fn := fun _ => fun
  | [d1, d2] => { results := [.lit (.bool false)], args := [d1, d2] }
  | _ => none }
def SwapsRenamedWrongFalsely : Prop := swapsRenamedRow.holds Try.pinned (OpenSpec.ofChange swapsRenamedWrong)

/-- 'comfitlaw09.SwapsBlocks': WHATEVER THE INPUT: true; the input reads as it did. -/
def swapsBlocksSpec : ChangeSpec := { name := "swapsBlocks", fn := fun _ => fun
  | [d1, d2] => { results := [.lit (.bool true)], args := [d1, d2] }
  | _ => none }
def swapsBlocksRow : OpenClaim := { program := "ytkmmngphcodjjaa", sum := "555c711915402dfcaa9e80f53ae542dff76e15caa876e4307112b51d271b5972", func := "comfit/comfitlaw09.SwapsBlocks", spec := "swapsBlocks", unfollowed := true, recurses := true, apart := false }
def SwapsBlocksSaid : Prop := swapsBlocksRow.holds Try.pinned (OpenSpec.ofChange swapsBlocksSpec)

/-- ITS FALSE NEIGHBOUR: 'it returns false'. Refute it at one input. -/
def swapsBlocksWrong : ChangeSpec := { name := "swapsBlocks", fn := fun _ => fun
  | [d1, d2] => { results := [.lit (.bool false)], args := [d1, d2] }
  | _ => none }
def SwapsBlocksWrongFalsely : Prop := swapsBlocksRow.holds Try.pinned (OpenSpec.ofChange swapsBlocksWrong)

/-- 'comfitlaw09.SwapsCore': WHATEVER THE INPUT: true; the input reads as it did. -/
def swapsCoreSpec : ChangeSpec := { name := "swapsCore", fn := fun _ => fun
  | [d1, d2] => { results := [.lit (.bool true)], args := [d1, d2] }
  | _ => none }
def swapsCoreRow : OpenClaim := { program := "ytkmmngphcodjjaa", sum := "555c711915402dfcaa9e80f53ae542dff76e15caa876e4307112b51d271b5972", func := "comfit/comfitlaw09.SwapsCore", spec := "swapsCore", unfollowed := true, recurses := true, apart := false }
def SwapsCoreSaid : Prop := swapsCoreRow.holds Try.pinned (OpenSpec.ofChange swapsCoreSpec)

/-- ITS FALSE NEIGHBOUR: 'it returns false'. Refute it at one input. -/
def swapsCoreWrong : ChangeSpec := { name := "swapsCore", fn := fun _ => fun
  | [d1, d2] => { results := [.lit (.bool false)], args := [d1, d2] }
  | _ => none }
def SwapsCoreWrongFalsely : Prop := swapsCoreRow.holds Try.pinned (OpenSpec.ofChange swapsCoreWrong)

/-- 'comfitlaw09.SwapsNoWaste': WHATEVER THE INPUT: true; the input reads as it did. -/
def swapsNoWasteSpec : ChangeSpec := { name := "swapsNoWaste", fn := fun _ => fun
  | [d1, d2, d3] => { results := [.lit (.bool true)], args := [d1, d2, d3] }
  | _ => none }
def swapsNoWasteRow : OpenClaim := { program := "ytkmmngphcodjjaa", sum := "555c711915402dfcaa9e80f53ae542dff76e15caa876e4307112b51d271b5972", func := "comfit/comfitlaw09.SwapsNoWaste", spec := "swapsNoWaste", unfollowed := true, recurses := true, apart := false }
def SwapsNoWasteSaid : Prop := swapsNoWasteRow.holds Try.pinned (OpenSpec.ofChange swapsNoWasteSpec)

/-- ITS FALSE NEIGHBOUR: 'it returns false'. Refute it at one input. -/
def swapsNoWasteWrong : ChangeSpec := { name := "swapsNoWaste", fn := fun _ => fun
  | [d1, d2, d3] => { results := [.lit (.bool false)], args := [d1, d2, d3] }
  | _ => none }
def SwapsNoWasteWrongFalsely : Prop := swapsNoWasteRow.holds Try.pinned (OpenSpec.ofChange swapsNoWasteWrong)

/-- 'comfitlaw09.SwapsCores': WHATEVER THE INPUT: true; the input reads as it did. -/
def swapsCoresSpec : ChangeSpec := { name := "swapsCores", fn := fun _ => fun
  | [d] => { results := [.lit (.bool true)], args := [d] }
  | _ => none }
def swapsCoresRow : OpenClaim := { program := "ytkmmngphcodjjaa", sum := "555c711915402dfcaa9e80f53ae542dff76e15caa876e4307112b51d271b5972", func := "comfit/comfitlaw09.SwapsCores", spec := "swapsCores", unfollowed := true, recurses := true, apart := false }
def SwapsCoresSaid : Prop := swapsCoresRow.holds Try.pinned (OpenSpec.ofChange swapsCoresSpec)

/-- ITS FALSE NEIGHBOUR: 'it returns false'. Refute it at one input. -/
def swapsCoresWrong : ChangeSpec := { name := "swapsCores", fn := fun _ => fun
  | [d] => { results := [.lit (.bool false)], args := [d] }
  | _ => none }
def SwapsCoresWrongFalsely : Prop := swapsCoresRow.holds Try.pinned (OpenSpec.ofChange swapsCoresWrong)

/-- 'comfitlaw09.SwapsHelp': WHATEVER THE INPUT: true; the input reads as it did. -/
def swapsHelpSpec : ChangeSpec := { name := "swapsHelp", fn := fun _ => fun
  | [d1, d2, d3, d4] => { results := [.lit (.bool true)], args := [d1, d2, d3, d4] }
  | _ => none }
def swapsHelpRow : OpenClaim := { program := "ytkmmngphcodjjaa", sum := "555c711915402dfcaa9e80f53ae542dff76e15caa876e4307112b51d271b5972", func := "comfit/comfitlaw09.SwapsHelp", spec := "swapsHelp", unfollowed := true, recurses := true, apart := false }
def SwapsHelpSaid : Prop := swapsHelpRow.holds Try.pinned (OpenSpec.ofChange swapsHelpSpec)

/-- ITS FALSE NEIGHBOUR: 'it returns false'. Refute it at one input. -/
def swapsHelpWrong : ChangeSpec := { name := "swapsHelp", fn := fun _ => fun
  | [d1, d2, d3, d4] => { results := [.lit (.bool false)], args := [d1, d2, d3, d4] }
  | _ => none }
def SwapsHelpWrongFalsely : Prop := swapsHelpRow.holds Try.pinned (OpenSpec.ofChange swapsHelpWrong)

/-- 'comfitlaw09.SwapsNets': WHATEVER THE INPUT: true; the input reads as it did. -/
def swapsNetsSpec : ChangeSpec := { name := "swapsNets", fn := fun _ => fun
  | [d1, d2] => { results := [.lit (.bool true)], args := [d1, d2] }
  | _ => none }
def swapsNetsRow : OpenClaim := { program := "ytkmmngphcodjjaa", sum := "555c711915402dfcaa9e80f53ae542dff76e15caa876e4307112b51d271b5972", func := "comfit/comfitlaw09.SwapsNets", spec := "swapsNets", unfollowed := true, recurses := true, apart := false }
def SwapsNetsSaid : Prop := swapsNetsRow.holds Try.pinned (OpenSpec.ofChange swapsNetsSpec)

/-- ITS FALSE NEIGHBOUR: 'it returns false'. Refute it at one input. -/
def swapsNetsWrong : ChangeSpec := { name := "swapsNets", fn := fun _ => fun
  | [d1, d2] => { results := [.lit (.bool false)], args := [d1, d2] }
  | _ => none }
def SwapsNetsWrongFalsely : Prop := swapsNetsRow.holds Try.pinned (OpenSpec.ofChange swapsNetsWrong)

/- THE SECOND FORM. 'bulk': how many values and letters a reading holds, each counted each time it is reached (what is shared counts as often as it is met; a slice's spare places count too). A statement '..UptoSaid' is the law's where the arguments, and the package variables that the reading takes, are together of bulk at most 1048576: NARROWER than '..Said'. Prove '..Said' where nothing that the law and all that it calls make is longer than what came in: it says more and counts as full. Else prove '..UptoSaid'. A law counts once. -/
mutual
def uptoBulk {H : Type} : DataW H → Nat
  | .lit (.string bytes) => bytes.length + 1
  | .lit _ => 1
  | .nil => 1
  | .ptr d => uptoBulk d + 1
  | .slice elems spare => uptoBulkAll elems + uptoBulkAll spare + 1
  | .agg parts => uptoBulkAll parts + 1
  | .iface _ d => uptoBulk d + 1
  | .map entries => uptoBulkEntries entries + 1
  | .held _ => 1
def uptoBulkAll {H : Type} : List (DataW H) → Nat
  | [] => 0
  | d :: r => uptoBulk d + uptoBulkAll r
def uptoBulkEntries {H : Type} : List (Lit × DataW H) → Nat
  | [] => 0
  | x :: r => uptoBulkEntry x + uptoBulkEntries r
def uptoBulkEntry {H : Type} : Lit × DataW H → Nat
  | (.string bytes, d) => bytes.length + uptoBulk d + 1
  | (_, d) => uptoBulk d + 1
 end
def uptoSmall : (H : Type) → List (DataW H) → Bool := fun _ ds => decide (uptoBulkAll ds ≤ 1048576)
def OpenSpec.upto (s : _root_.Go.ChangeSpec) : _root_.Go.OpenSpec := { _root_.Go.OpenSpec.ofChange s with cond := some uptoSmall }

/-- 'comfitlaw09.SwapsTrades', WHERE WHAT IT READS IS OF BULK AT MOST 1048576: true; the input reads as it did. -/
def swapsTradesUptoRow : OpenClaim := { program := "ytkmmngphcodjjaa", sum := "555c711915402dfcaa9e80f53ae542dff76e15caa876e4307112b51d271b5972", func := "comfit/comfitlaw09.SwapsTrades", spec := "swapsTrades", unfollowed := true, recurses := true, apart := false, narrowed := true }
def SwapsTradesUptoSaid : Prop := swapsTradesUptoRow.holds Try.pinned (OpenSpec.upto swapsTradesSpec)

/-- 'comfitlaw09.SwapsRounds', WHERE WHAT IT READS IS OF BULK AT MOST 1048576: true; the input reads as it did. -/
def swapsRoundsUptoRow : OpenClaim := { program := "ytkmmngphcodjjaa", sum := "555c711915402dfcaa9e80f53ae542dff76e15caa876e4307112b51d271b5972", func := "comfit/comfitlaw09.SwapsRounds", spec := "swapsRounds", unfollowed := true, recurses := true, apart := false, narrowed := true }
def SwapsRoundsUptoSaid : Prop := swapsRoundsUptoRow.holds Try.pinned (OpenSpec.upto swapsRoundsSpec)

/-- 'comfitlaw09.SwapsLies', WHERE WHAT IT READS IS OF BULK AT MOST 1048576: true; the input reads as it did. -/
def swapsLiesUptoRow : OpenClaim := { program := "ytkmmngphcodjjaa", sum := "555c711915402dfcaa9e80f53ae542dff76e15caa876e4307112b51d271b5972", func := "comfit/comfitlaw09.SwapsLies", spec := "swapsLies", unfollowed := true, recurses := true, apart := false, narrowed := true }
def SwapsLiesUptoSaid : Prop := swapsLiesUptoRow.holds Try.pinned (OpenSpec.upto swapsLiesSpec)

/-- 'comfitlaw09.SwapsHonest', WHERE WHAT IT READS IS OF BULK AT MOST 1048576: true; the input reads as it did. -/
def swapsHonestUptoRow : OpenClaim := { program := "ytkmmngphcodjjaa", sum := "555c711915402dfcaa9e80f53ae542dff76e15caa876e4307112b51d271b5972", func := "comfit/comfitlaw09.SwapsHonest", spec := "swapsHonest", unfollowed := true, recurses := true, apart := false, narrowed := true }
def SwapsHonestUptoSaid : Prop := swapsHonestUptoRow.holds Try.pinned (OpenSpec.upto swapsHonestSpec)

/-- 'comfitlaw09.SwapsTurns', WHERE WHAT IT READS IS OF BULK AT MOST 1048576: true; the input reads as it did. -/
def swapsTurnsUptoRow : OpenClaim := { program := "ytkmmngphcodjjaa", sum := "555c711915402dfcaa9e80f53ae542dff76e15caa876e4307112b51d271b5972", func := "comfit/comfitlaw09.SwapsTurns", spec := "swapsTurns", unfollowed := true, recurses := true, apart := false, narrowed := true }
def SwapsTurnsUptoSaid : Prop := swapsTurnsUptoRow.holds Try.pinned (OpenSpec.upto swapsTurnsSpec)

/-- 'comfitlaw09.SwapsRenamed', WHERE WHAT IT READS IS OF BULK AT MOST 1048576: true; the input reads as it did. -/
def swapsRenamedUptoRow : OpenClaim := { program := "ytkmmngphcodjjaa", sum := "555c711915402dfcaa9e80f53ae542dff76e15caa876e4307112b51d271b5972", func := "comfit/comfitlaw09.SwapsRenamed", spec := "swapsRenamed", unfollowed := true, recurses := true, apart := false, narrowed := true }
def SwapsRenamedUptoSaid : Prop := swapsRenamedUptoRow.holds Try.pinned (OpenSpec.upto swapsRenamedSpec)

/-- 'comfitlaw09.SwapsBlocks', WHERE WHAT IT READS IS OF BULK AT MOST 1048576: true; the input reads as it did. -/
def swapsBlocksUptoRow : OpenClaim := { program := "ytkmmngphcodjjaa", sum := "555c711915402dfcaa9e80f53ae542dff76e15caa876e4307112b51d271b5972", func := "comfit/comfitlaw09.SwapsBlocks", spec := "swapsBlocks", unfollowed := true, recurses := true, apart := false, narrowed := true }
def SwapsBlocksUptoSaid : Prop := swapsBlocksUptoRow.holds Try.pinned (OpenSpec.upto swapsBlocksSpec)

/-- 'comfitlaw09.SwapsCore', WHERE WHAT IT READS IS OF BULK AT MOST 1048576: true; the input reads as it did. -/
def swapsCoreUptoRow : OpenClaim := { program := "ytkmmngphcodjjaa", sum := "555c711915402dfcaa9e80f53ae542dff76e15caa876e4307112b51d271b5972", func := "comfit/comfitlaw09.SwapsCore", spec := "swapsCore", unfollowed := true, recurses := true, apart := false, narrowed := true }
def SwapsCoreUptoSaid : Prop := swapsCoreUptoRow.holds Try.pinned (OpenSpec.upto swapsCoreSpec)

/-- 'comfitlaw09.SwapsNoWaste', WHERE WHAT IT READS IS OF BULK AT MOST 1048576: true; the input reads as it did. -/
def swapsNoWasteUptoRow : OpenClaim := { program := "ytkmmngphcodjjaa", sum := "555c711915402dfcaa9e80f53ae542dff76e15caa876e4307112b51d271b5972", func := "comfit/comfitlaw09.SwapsNoWaste", spec := "swapsNoWaste", unfollowed := true, recurses := true, apart := false, narrowed := true }
def SwapsNoWasteUptoSaid : Prop := swapsNoWasteUptoRow.holds Try.pinned (OpenSpec.upto swapsNoWasteSpec)

/-- 'comfitlaw09.SwapsCores', WHERE WHAT IT READS IS OF BULK AT MOST 1048576: true; the input reads as it did. -/
def swapsCoresUptoRow : OpenClaim := { program := "ytkmmngphcodjjaa", sum := "555c711915402dfcaa9e80f53ae542dff76e15caa876e4307112b51d271b5972", func := "comfit/comfitlaw09.SwapsCores", spec := "swapsCores", unfollowed := true, recurses := true, apart := false, narrowed := true }
def SwapsCoresUptoSaid : Prop := swapsCoresUptoRow.holds Try.pinned (OpenSpec.upto swapsCoresSpec)

/-- 'comfitlaw09.SwapsHelp', WHERE WHAT IT READS IS OF BULK AT MOST 1048576: true; the input reads as it did. -/
def swapsHelpUptoRow : OpenClaim := { program := "ytkmmngphcodjjaa", sum := "555c711915402dfcaa9e80f53ae542dff76e15caa876e4307112b51d271b5972", func := "comfit/comfitlaw09.SwapsHelp", spec := "swapsHelp", unfollowed := true, recurses := true, apart := false, narrowed := true }
def SwapsHelpUptoSaid : Prop := swapsHelpUptoRow.holds Try.pinned (OpenSpec.upto swapsHelpSpec)

/-- 'comfitlaw09.SwapsNets', WHERE WHAT IT READS IS OF BULK AT MOST 1048576: true; the input reads as it did. -/
def swapsNetsUptoRow : OpenClaim := { program := "ytkmmngphcodjjaa", sum := "555c711915402dfcaa9e80f53ae542dff76e15caa876e4307112b51d271b5972", func := "comfit/comfitlaw09.SwapsNets", spec := "swapsNets", unfollowed := true, recurses := true, apart := false, narrowed := true }
def SwapsNetsUptoSaid : Prop := swapsNetsUptoRow.holds Try.pinned (OpenSpec.upto swapsNetsSpec)

end Rows
end Go.Proofs.Ytkmmngphcodjjaa
