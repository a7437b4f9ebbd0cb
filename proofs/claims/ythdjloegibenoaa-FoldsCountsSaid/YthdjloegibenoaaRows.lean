/-
  No cell of these rows narrows 'for every input' (looked for: loops, veiled, ifaces, maps, wideKeys, modest, calm, conditions, laid).
  DERIVED. THE GIVEN ROWS OF THIS SEAT. 12 by the template 'for every input the law returns true; each argument reads behind the call as it read before'; 0 by the template 'total and deterministic' (their statements: YthdjloegibenoaaTotals.lean).
  GIVEN WITH THE SEED: the statements are not yours to turn. If you find one false, say at which input.
  Laid BY PROGRAM, IN A SANDBOX (cutbox-rows.mjs): the forced cells as the released guide's own fill.sh prints them over the translation dd5380c75fcf5b44… (all of the seat's roots in one cut). By AI agents, Wed Nov 11 2026. No macro, syntax, notation, axiom, sorry.
-/
import Derived.Test.YthdjloegibenoaaChecked
import GoSem.Claim
import GoSem.ClaimJoined
import GoSem.ClaimMapViews
import Derived.JoinedTies
import Derived.KernelRfl
namespace Go.Proofs.Ythdjloegibenoaa
/- THE CELL 'sum', in the pinned program and in every row, IS THE sha256 OF THE DUMP (.gsa) THAT YthdjloegibenoaaProg.lean LOADS. Nothing in Lean hashes anything: it is a label: what it is worth is what the hold of that sum in a sandbox is worth. -/
noncomputable def Try.pinned : Pinned := { name := "ythdjloegibenoaa", sum := "dd5380c75fcf5b44f2ce6fe89f98fe6bb73d08263cd64cceb9a01441f3dcbb9c", checked := Try.checked }
namespace Rows
def none {H : Type} : Left H := { results := [], args := [] }

/-- 'comfitlaw03.FoldsMoves': WHATEVER THE INPUT: true; the input reads as it did. -/
def foldsMovesSpec : ChangeSpec := { name := "foldsMoves", fn := fun _ => fun
  | [d1, d2] => { results := [.lit (.bool true)], args := [d1, d2] }
  | _ => none }
def foldsMovesRow : OpenClaim := { program := "ythdjloegibenoaa", sum := "dd5380c75fcf5b44f2ce6fe89f98fe6bb73d08263cd64cceb9a01441f3dcbb9c", func := "comfit/comfitlaw03.FoldsMoves", spec := "foldsMoves", unfollowed := true, recurses := true, apart := false }
def FoldsMovesSaid : Prop := foldsMovesRow.holds Try.pinned (OpenSpec.ofChange foldsMovesSpec)

/-- ITS FALSE NEIGHBOUR: 'it returns false'. Refute it at one input. -/
def foldsMovesWrong : ChangeSpec := { name := "foldsMoves", fn := fun _ => fun
  | [d1, d2] => { results := [.lit (.bool false)], args := [d1, d2] }
  | _ => none }
def FoldsMovesWrongFalsely : Prop := foldsMovesRow.holds Try.pinned (OpenSpec.ofChange foldsMovesWrong)

/-- 'comfitlaw03.FoldsPossible': WHATEVER THE INPUT: true; the input reads as it did. -/
def foldsPossibleSpec : ChangeSpec := { name := "foldsPossible", fn := fun _ => fun
  | [d] => { results := [.lit (.bool true)], args := [d] }
  | _ => none }
def foldsPossibleRow : OpenClaim := { program := "ythdjloegibenoaa", sum := "dd5380c75fcf5b44f2ce6fe89f98fe6bb73d08263cd64cceb9a01441f3dcbb9c", func := "comfit/comfitlaw03.FoldsPossible", spec := "foldsPossible", unfollowed := true, recurses := true, apart := false }
def FoldsPossibleSaid : Prop := foldsPossibleRow.holds Try.pinned (OpenSpec.ofChange foldsPossibleSpec)

/-- ITS FALSE NEIGHBOUR: 'it returns false'. Refute it at one input. -/
def foldsPossibleWrong : ChangeSpec := { name := "foldsPossible", fn := fun _ => fun
  | [d] => { results := [.lit (.bool false)], args := [d] }
  | _ => none }
def FoldsPossibleWrongFalsely : Prop := foldsPossibleRow.holds Try.pinned (OpenSpec.ofChange foldsPossibleWrong)

/-- 'comfitlaw03.FoldsRows': WHATEVER THE INPUT: true; the input reads as it did. -/
def foldsRowsSpec : ChangeSpec := { name := "foldsRows", fn := fun _ => fun
  | [d1, d2] => { results := [.lit (.bool true)], args := [d1, d2] }
  | _ => none }
def foldsRowsRow : OpenClaim := { program := "ythdjloegibenoaa", sum := "dd5380c75fcf5b44f2ce6fe89f98fe6bb73d08263cd64cceb9a01441f3dcbb9c", func := "comfit/comfitlaw03.FoldsRows", spec := "foldsRows", unfollowed := true, recurses := true, apart := false }
def FoldsRowsSaid : Prop := foldsRowsRow.holds Try.pinned (OpenSpec.ofChange foldsRowsSpec)

/-- ITS FALSE NEIGHBOUR: 'it returns false'. Refute it at one input. -/
def foldsRowsWrong : ChangeSpec := { name := "foldsRows", fn := fun _ => fun
  | [d1, d2] => { results := [.lit (.bool false)], args := [d1, d2] }
  | _ => none }
def FoldsRowsWrongFalsely : Prop := foldsRowsRow.holds Try.pinned (OpenSpec.ofChange foldsRowsWrong)

/-- 'comfitlaw03.FoldsCounts': WHATEVER THE INPUT: true; the input reads as it did. -/
def foldsCountsSpec : ChangeSpec := { name := "foldsCounts", fn := fun _ => fun
  | [d] => { results := [.lit (.bool true)], args := [d] }
  | _ => none }
def foldsCountsRow : OpenClaim := { program := "ythdjloegibenoaa", sum := "dd5380c75fcf5b44f2ce6fe89f98fe6bb73d08263cd64cceb9a01441f3dcbb9c", func := "comfit/comfitlaw03.FoldsCounts", spec := "foldsCounts", unfollowed := true, recurses := true, apart := false }
def FoldsCountsSaid : Prop := foldsCountsRow.holds Try.pinned (OpenSpec.ofChange foldsCountsSpec)

/-- ITS FALSE NEIGHBOUR: 'it returns false'. Refute it at one input. -/
def foldsCountsWrong : ChangeSpec := { name := "foldsCounts", fn := fun _ => fun
  | [d] => { results := [.lit (.bool false)], args := [d] }
  | _ => none }
def FoldsCountsWrongFalsely : Prop := foldsCountsRow.holds Try.pinned (OpenSpec.ofChange foldsCountsWrong)

/-- 'comfitlaw03.FoldsLists': WHATEVER THE INPUT: true; the input reads as it did. -/
def foldsListsSpec : ChangeSpec := { name := "foldsLists", fn := fun _ => fun
  | [d] => { results := [.lit (.bool true)], args := [d] }
  | _ => none }
def foldsListsRow : OpenClaim := { program := "ythdjloegibenoaa", sum := "dd5380c75fcf5b44f2ce6fe89f98fe6bb73d08263cd64cceb9a01441f3dcbb9c", func := "comfit/comfitlaw03.FoldsLists", spec := "foldsLists", unfollowed := true, recurses := true, apart := false }
def FoldsListsSaid : Prop := foldsListsRow.holds Try.pinned (OpenSpec.ofChange foldsListsSpec)

/-- ITS FALSE NEIGHBOUR: 'it returns false'. Refute it at one input. -/
def foldsListsWrong : ChangeSpec := { name := "foldsLists", fn := fun _ => fun
  | [d] => { results := [.lit (.bool false)], args := [d] }
  | _ => none }
def FoldsListsWrongFalsely : Prop := foldsListsRow.holds Try.pinned (OpenSpec.ofChange foldsListsWrong)

/-- 'comfitlaw03.FoldsMade': WHATEVER THE INPUT: true; the input reads as it did. -/
def foldsMadeSpec : ChangeSpec := { name := "foldsMade", fn := fun _ => fun
  | [d1, d2] => { results := [.lit (.bool true)], args := [d1, d2] }
  | _ => none }
def foldsMadeRow : OpenClaim := { program := "ythdjloegibenoaa", sum := "dd5380c75fcf5b44f2ce6fe89f98fe6bb73d08263cd64cceb9a01441f3dcbb9c", func := "comfit/comfitlaw03.FoldsMade", spec := "foldsMade", unfollowed := true, recurses := true, apart := false }
def FoldsMadeSaid : Prop := foldsMadeRow.holds Try.pinned (OpenSpec.ofChange foldsMadeSpec)

/-- ITS FALSE NEIGHBOUR: 'it returns false'. Refute it at one input. -/
def foldsMadeWrong : ChangeSpec := { name := "foldsMade", fn := fun _ => fun
  | [d1, d2] => { results := [.lit (.bool false)], args := [d1, d2] }
  | _ => none }
def FoldsMadeWrongFalsely : Prop := foldsMadeRow.holds Try.pinned (OpenSpec.ofChange foldsMadeWrong)

/-- 'comfitlaw03.FoldsMaps': WHATEVER THE INPUT: true; the input reads as it did. -/
def foldsMapsSpec : ChangeSpec := { name := "foldsMaps", fn := fun _ => fun
  | [d1, d2] => { results := [.lit (.bool true)], args := [d1, d2] }
  | _ => none }
def foldsMapsRow : OpenClaim := { program := "ythdjloegibenoaa", sum := "dd5380c75fcf5b44f2ce6fe89f98fe6bb73d08263cd64cceb9a01441f3dcbb9c", func := "comfit/comfitlaw03.FoldsMaps", spec := "foldsMaps", unfollowed := true, recurses := true, apart := false }
def FoldsMapsSaid : Prop := foldsMapsRow.holds Try.pinned (OpenSpec.ofChange foldsMapsSpec)

/-- ITS FALSE NEIGHBOUR: 'it returns false'. Refute it at one input. -/
def foldsMapsWrong : ChangeSpec := { name := "foldsMaps", fn := fun _ => fun
  | [d1, d2] => { results := [.lit (.bool false)], args := [d1, d2] }
  | _ => none }
def FoldsMapsWrongFalsely : Prop := foldsMapsRow.holds Try.pinned (OpenSpec.ofChange foldsMapsWrong)

/-- 'comfitlaw03.FoldsTurns': WHATEVER THE INPUT: true; the input reads as it did. -/
def foldsTurnsSpec : ChangeSpec := { name := "foldsTurns", fn := fun _ => fun
  | [d] => { results := [.lit (.bool true)], args := [d] }
  | _ => none }
def foldsTurnsRow : OpenClaim := { program := "ythdjloegibenoaa", sum := "dd5380c75fcf5b44f2ce6fe89f98fe6bb73d08263cd64cceb9a01441f3dcbb9c", func := "comfit/comfitlaw03.FoldsTurns", spec := "foldsTurns", unfollowed := true, recurses := true, apart := false }
def FoldsTurnsSaid : Prop := foldsTurnsRow.holds Try.pinned (OpenSpec.ofChange foldsTurnsSpec)

/-- ITS FALSE NEIGHBOUR: 'it returns false'. Refute it at one input. -/
def foldsTurnsWrong : ChangeSpec := { name := "foldsTurns", fn := fun _ => fun
  | [d] => { results := [.lit (.bool false)], args := [d] }
  | _ => none }
def FoldsTurnsWrongFalsely : Prop := foldsTurnsRow.holds Try.pinned (OpenSpec.ofChange foldsTurnsWrong)

/-- 'comfitlaw03.FoldsOpens': WHATEVER THE INPUT: true; the input reads as it did. -/
def foldsOpensSpec : ChangeSpec := { name := "foldsOpens", fn := fun _ => fun
  | [d] => { results := [.lit (.bool true)], args := [d] }
  | _ => none }
def foldsOpensRow : OpenClaim := { program := "ythdjloegibenoaa", sum := "dd5380c75fcf5b44f2ce6fe89f98fe6bb73d08263cd64cceb9a01441f3dcbb9c", func := "comfit/comfitlaw03.FoldsOpens", spec := "foldsOpens", unfollowed := true, recurses := true, apart := false }
def FoldsOpensSaid : Prop := foldsOpensRow.holds Try.pinned (OpenSpec.ofChange foldsOpensSpec)

/-- ITS FALSE NEIGHBOUR: 'it returns false'. Refute it at one input. -/
def foldsOpensWrong : ChangeSpec := { name := "foldsOpens", fn := fun _ => fun
  | [d] => { results := [.lit (.bool false)], args := [d] }
  | _ => none }
def FoldsOpensWrongFalsely : Prop := foldsOpensRow.holds Try.pinned (OpenSpec.ofChange foldsOpensWrong)

/-- 'comfitlaw03.FoldsOver': WHATEVER THE INPUT: true; the input reads as it did. -/
def foldsOverSpec : ChangeSpec := { name := "foldsOver", fn := fun _ => fun
  | [d] => { results := [.lit (.bool true)], args := [d] }
  | _ => none }
def foldsOverRow : OpenClaim := { program := "ythdjloegibenoaa", sum := "dd5380c75fcf5b44f2ce6fe89f98fe6bb73d08263cd64cceb9a01441f3dcbb9c", func := "comfit/comfitlaw03.FoldsOver", spec := "foldsOver", unfollowed := true, recurses := true, apart := false }
def FoldsOverSaid : Prop := foldsOverRow.holds Try.pinned (OpenSpec.ofChange foldsOverSpec)

/-- ITS FALSE NEIGHBOUR: 'it returns false'. Refute it at one input. -/
def foldsOverWrong : ChangeSpec := { name := "foldsOver", fn := fun _ => fun
  | [d] => { results := [.lit (.bool false)], args := [d] }
  | _ => none }
def FoldsOverWrongFalsely : Prop := foldsOverRow.holds Try.pinned (OpenSpec.ofChange foldsOverWrong)

/-- 'comfitlaw03.FoldsCreases': WHATEVER THE INPUT: true; the input reads as it did. -/
def foldsCreasesSpec : ChangeSpec := { name := "foldsCreases", fn := fun _ => fun
  | [d] => { results := [.lit (.bool true)], args := [d] }
  | _ => none }
def foldsCreasesRow : OpenClaim := { program := "ythdjloegibenoaa", sum := "dd5380c75fcf5b44f2ce6fe89f98fe6bb73d08263cd64cceb9a01441f3dcbb9c", func := "comfit/comfitlaw03.FoldsCreases", spec := "foldsCreases", unfollowed := true, recurses := true, apart := false }
def FoldsCreasesSaid : Prop := foldsCreasesRow.holds Try.pinned (OpenSpec.ofChange foldsCreasesSpec)

/-- ITS FALSE NEIGHBOUR: 'it returns false'. Refute it at one input. -/
def foldsCreasesWrong : ChangeSpec := { name := "foldsCreases", fn := fun _ => fun
  | [d] => { results := [.lit (.bool false)], args := [d] }
  | _ => none }
def FoldsCreasesWrongFalsely : Prop := foldsCreasesRow.holds Try.pinned (OpenSpec.ofChange foldsCreasesWrong)

/-- 'comfitlaw03.FoldsFound': WHATEVER THE INPUT: true; the input reads as it did. -/
def foldsFoundSpec : ChangeSpec := { name := "foldsFound", fn := fun _ => fun
  | [d1, d2, d3] => { results := [.lit (.bool true)], args := [d1, d2, d3] }
  | _ => none }
def foldsFoundRow : OpenClaim := { program := "ythdjloegibenoaa", sum := "dd5380c75fcf5b44f2ce6fe89f98fe6bb73d08263cd64cceb9a01441f3dcbb9c", func := "comfit/comfitlaw03.FoldsFound", spec := "foldsFound", unfollowed := true, recurses := true, apart := false }
def FoldsFoundSaid : Prop := foldsFoundRow.holds Try.pinned (OpenSpec.ofChange foldsFoundSpec)

/-- ITS FALSE NEIGHBOUR: 'it returns false'. Refute it at one input. -/
def foldsFoundWrong : ChangeSpec := { name := "foldsFound", fn := fun _ => fun
  | [d1, d2, d3] => { results := [.lit (.bool false)], args := [d1, d2, d3] }
  | _ => none }
def FoldsFoundWrongFalsely : Prop := foldsFoundRow.holds Try.pinned (OpenSpec.ofChange foldsFoundWrong)

/- THE SECOND FORM. 'bulk': how many values and letters a reading holds, each counted each time it is reached (what is shared counts as often as it is met; a slice's spare places count too). A statement '..UptoSaid' is the law's where the arguments, and the package variables that the reading takes, are together of bulk at most 1048576: NARROWER than '..Said'. Prove '..Said' where nothing that the law and all that it calls make is longer than what came in: it says more and counts as full. Else prove '..UptoSaid'. A law counts once. -/
mutual
def uptoBulk {H : Type} : DataW H → Nat
  | .lit (.string bytes) => bytes.length + 1
  | .lit _ => 1
  | .nil => 1
  | .ptr d => uptoBulk d + 1
  | .slice elems spare => uptoBulkAll elems + uptoBulkAll spare + 1
  | .agg parts => uptoBulkAll parts + 1
  | .iface _ d => uptoBulk d + 1
  | .map entries => uptoBulkEntries entries + 1
  | .held _ => 1
def uptoBulkAll {H : Type} : List (DataW H) → Nat
  | [] => 0
  | d :: r => uptoBulk d + uptoBulkAll r
def uptoBulkEntries {H : Type} : List (Lit × DataW H) → Nat
  | [] => 0
  | x :: r => uptoBulkEntry x + uptoBulkEntries r
def uptoBulkEntry {H : Type} : Lit × DataW H → Nat
  | (.string bytes, d) => bytes.length + uptoBulk d + 1
  | (_, d) => uptoBulk d + 1
 end
def uptoSmall : (H : Type) → List (DataW H) → Bool := fun _ ds => decide (uptoBulkAll ds ≤ 1048576)
def OpenSpec.upto (s : _root_.Go.ChangeSpec) : _root_.Go.OpenSpec := { _root_.Go.OpenSpec.ofChange s with cond := some uptoSmall }

/-- 'comfitlaw03.FoldsMoves', WHERE WHAT IT READS IS OF BULK AT MOST 1048576: true; the input reads as it did. -/
def foldsMovesUptoRow : OpenClaim := { program := "ythdjloegibenoaa", sum := "dd5380c75fcf5b44f2ce6fe89f98fe6bb73d08263cd64cceb9a01441f3dcbb9c", func := "comfit/comfitlaw03.FoldsMoves", spec := "foldsMoves", unfollowed := true, recurses := true, apart := false, narrowed := true }
def FoldsMovesUptoSaid : Prop := foldsMovesUptoRow.holds Try.pinned (OpenSpec.upto foldsMovesSpec)

/-- 'comfitlaw03.FoldsPossible', WHERE WHAT IT READS IS OF BULK AT MOST 1048576: true; the input reads as it did. -/
def foldsPossibleUptoRow : OpenClaim := { program := "ythdjloegibenoaa", sum := "dd5380c75fcf5b44f2ce6fe89f98fe6bb73d08263cd64cceb9a01441f3dcbb9c", func := "comfit/comfitlaw03.FoldsPossible", spec := "foldsPossible", unfollowed := true, recurses := true, apart := false, narrowed := true }
def FoldsPossibleUptoSaid : Prop := foldsPossibleUptoRow.holds Try.pinned (OpenSpec.upto foldsPossibleSpec)

/-- 'comfitlaw03.FoldsRows', WHERE WHAT IT READS IS OF BULK AT MOST 1048576: true; the input reads as it did. -/
def foldsRowsUptoRow : OpenClaim := { program := "ythdjloegibenoaa", sum := "dd5380c75fcf5b44f2ce6fe89f98fe6bb73d08263cd64cceb9a01441f3dcbb9c", func := "comfit/comfitlaw03.FoldsRows", spec := "foldsRows", unfollowed := true, recurses := true, apart := false, narrowed := true }
def FoldsRowsUptoSaid : Prop := foldsRowsUptoRow.holds Try.pinned (OpenSpec.upto foldsRowsSpec)

/-- 'comfitlaw03.FoldsCounts', WHERE WHAT IT READS IS OF BULK AT MOST 1048576: true; the input reads as it did. -/
def foldsCountsUptoRow : OpenClaim := { program := "ythdjloegibenoaa", sum := "dd5380c75fcf5b44f2ce6fe89f98fe6bb73d08263cd64cceb9a01441f3dcbb9c", func := "comfit/comfitlaw03.FoldsCounts", spec := "foldsCounts", unfollowed := true, recurses := true, apart := false, narrowed := true }
def FoldsCountsUptoSaid : Prop := foldsCountsUptoRow.holds Try.pinned (OpenSpec.upto foldsCountsSpec)

/-- 'comfitlaw03.FoldsLists', WHERE WHAT IT READS IS OF BULK AT MOST 1048576: true; the input reads as it did. -/
def foldsListsUptoRow : OpenClaim := { program := "ythdjloegibenoaa", sum := "dd5380c75fcf5b44f2ce6fe89f98fe6bb73d08263cd64cceb9a01441f3dcbb9c", func := "comfit/comfitlaw03.FoldsLists", spec := "foldsLists", unfollowed := true, recurses := true, apart := false, narrowed := true }
def FoldsListsUptoSaid : Prop := foldsListsUptoRow.holds Try.pinned (OpenSpec.upto foldsListsSpec)

/-- 'comfitlaw03.FoldsMade', WHERE WHAT IT READS IS OF BULK AT MOST 1048576: true; the input reads as it did. -/
def foldsMadeUptoRow : OpenClaim := { program := "ythdjloegibenoaa", sum := "dd5380c75fcf5b44f2ce6fe89f98fe6bb73d08263cd64cceb9a01441f3dcbb9c", func := "comfit/comfitlaw03.FoldsMade", spec := "foldsMade", unfollowed := true, recurses := true, apart := false, narrowed := true }
def FoldsMadeUptoSaid : Prop := foldsMadeUptoRow.holds Try.pinned (OpenSpec.upto foldsMadeSpec)

/-- 'comfitlaw03.FoldsMaps', WHERE WHAT IT READS IS OF BULK AT MOST 1048576: true; the input reads as it did. -/
def foldsMapsUptoRow : OpenClaim := { program := "ythdjloegibenoaa", sum := "dd5380c75fcf5b44f2ce6fe89f98fe6bb73d08263cd64cceb9a01441f3dcbb9c", func := "comfit/comfitlaw03.FoldsMaps", spec := "foldsMaps", unfollowed := true, recurses := true, apart := false, narrowed := true }
def FoldsMapsUptoSaid : Prop := foldsMapsUptoRow.holds Try.pinned (OpenSpec.upto foldsMapsSpec)

/-- 'comfitlaw03.FoldsTurns', WHERE WHAT IT READS IS OF BULK AT MOST 1048576: true; the input reads as it did. -/
def foldsTurnsUptoRow : OpenClaim := { program := "ythdjloegibenoaa", sum := "dd5380c75fcf5b44f2ce6fe89f98fe6bb73d08263cd64cceb9a01441f3dcbb9c", func := "comfit/comfitlaw03.FoldsTurns", spec := "foldsTurns", unfollowed := true, recurses := true, apart := false, narrowed := true }
def FoldsTurnsUptoSaid : Prop := foldsTurnsUptoRow.holds Try.pinned (OpenSpec.upto foldsTurnsSpec)

/-- 'comfitlaw03.FoldsOpens', WHERE WHAT IT READS IS OF BULK AT MOST 1048576: true; the input reads as it did. -/
def foldsOpensUptoRow : OpenClaim := { program := "ythdjloegibenoaa", sum := "dd5380c75fcf5b44f2ce6fe89f98fe6bb73d08263cd64cceb9a01441f3dcbb9c", func := "comfit/comfitlaw03.FoldsOpens", spec := "foldsOpens", unfollowed := true, recurses := true, apart := false, narrowed := true }
def FoldsOpensUptoSaid : Prop := foldsOpensUptoRow.holds Try.pinned (OpenSpec.upto foldsOpensSpec)

/-- 'comfitlaw03.FoldsOver', WHERE WHAT IT READS IS OF BULK AT MOST 1048576: true; the input reads as it did. -/
def foldsOverUptoRow : OpenClaim := { program := "ythdjloegibenoaa", sum := "dd5380c75fcf5b44f2ce6fe89f98fe6bb73d08263cd64cceb9a01441f3dcbb9c", func := "comfit/comfitlaw03.FoldsOver", spec := "foldsOver", unfollowed := true, recurses := true, apart := false, narrowed := true }
def FoldsOverUptoSaid : Prop := foldsOverUptoRow.holds Try.pinned (OpenSpec.upto foldsOverSpec)

/-- 'comfitlaw03.FoldsCreases', WHERE WHAT IT READS IS OF BULK AT MOST 1048576: true; the input reads as it did. -/
def foldsCreasesUptoRow : OpenClaim := { program := "ythdjloegibenoaa", sum := "dd5380c75fcf5b44f2ce6fe89f98fe6bb73d08263cd64cceb9a01441f3dcbb9c", func := "comfit/comfitlaw03.FoldsCreases", spec := "foldsCreases", unfollowed := true, recurses := true, apart := false, narrowed := true }
def FoldsCreasesUptoSaid : Prop := foldsCreasesUptoRow.holds Try.pinned (OpenSpec.upto foldsCreasesSpec)

/-- 'comfitlaw03.FoldsFound', WHERE WHAT IT READS IS OF BULK AT MOST 1048576: true; the input reads as it did. -/
def foldsFoundUptoRow : OpenClaim := { program := "ythdjloegibenoaa", sum := "dd5380c75fcf5b44f2ce6fe89f98fe6bb73d08263cd64cceb9a01441f3dcbb9c", func := "comfit/comfitlaw03.FoldsFound", spec := "foldsFound", unfollowed := true, recurses := true, apart := false, narrowed := true }
def FoldsFoundUptoSaid : Prop := foldsFoundUptoRow.holds Try.pinned (OpenSpec.upto foldsFoundSpec)

end Rows
end Go.Proofs.Ythdjloegibenoaa
