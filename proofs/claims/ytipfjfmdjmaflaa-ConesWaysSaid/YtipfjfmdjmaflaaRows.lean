/-
  No cell of these rows narrows 'for every input' (looked for: loops, veiled, ifaces, maps, wideKeys, modest, calm, conditions, laid).
  DERIVED. THE GIVEN ROWS OF THIS SEAT. 14 by the template 'for every input the law returns true; each argument reads behind the call as it read before'; 0 by the template 'total and deterministic' (their statements: YtipfjfmdjmaflaaTotals.lean).
  GIVEN WITH THE SEED: the statements are not yours to turn. If you find one false, say at which input.
  Laid BY PROGRAM, IN A SANDBOX (cutbox-rows.mjs): the forced cells as the released guide's own fill.sh prints them over the translation 23e080627da887f3… (all of the seat's roots in one cut). By AI agents, Wed Nov 11 2026. No macro, syntax, notation, axiom, sorry.
-/
import Derived.Test.YtipfjfmdjmaflaaChecked
import GoSem.Claim
import GoSem.ClaimJoined
import GoSem.ClaimMapViews
import Derived.JoinedTies
import Derived.KernelRfl
namespace Go.Proofs.Ytipfjfmdjmaflaa
/- THE CELL 'sum', in the pinned program and in every row, IS THE sha256 OF THE DUMP (.gsa) THAT YtipfjfmdjmaflaaProg.lean LOADS. Nothing in Lean hashes anything: it is a label: what it is worth is what the hold of that sum in a sandbox is worth. -/
noncomputable def Try.pinned : Pinned := { name := "ytipfjfmdjmaflaa", sum := "23e080627da887f3032bc3dd59749f5a9176c240ae44db55e49968f5baf52f70", checked := Try.checked }
namespace Rows
def none {H : Type} : Left H := { results := [], args := [] }

/-- 'comfitlaw01.ConesTimes': WHATEVER THE INPUT: true; the input reads as it did. -/
def conesTimesSpec : ChangeSpec := { name := "conesTimes", fn := fun _ => fun
  | [d1, d2, d3] => { results := [.lit (.bool true)], args := [d1, d2, d3] }
  | _ => none }
def conesTimesRow : OpenClaim := { program := "ytipfjfmdjmaflaa", sum := "23e080627da887f3032bc3dd59749f5a9176c240ae44db55e49968f5baf52f70", func := "comfit/comfitlaw01.ConesTimes", spec := "conesTimes", plainKeys := false, apart := false }
def ConesTimesSaid : Prop := conesTimesRow.holds Try.pinned (OpenSpec.ofChange conesTimesSpec)

/-- ITS FALSE NEIGHBOUR: 'it returns false'. Refute it at one input. -/
def conesTimesWrong : ChangeSpec := { name := "conesTimes", fn := fun _ => fun
  | [d1, d2, d3] => { results := [.lit (.bool false)], args := [d1, d2, d3] }
  | _ => none }
def ConesTimesWrongFalsely : Prop := conesTimesRow.holds Try.pinned (OpenSpec.ofChange conesTimesWrong)

/-- 'comfitlaw01.ConesWays': WHATEVER THE INPUT: true; the input reads as it did. -/
def conesWaysSpec : ChangeSpec := { name := "conesWays", fn := fun _ => fun
  | [d1, d2, d3, d4] => { results := [.lit (.bool true)], args := [d1, d2, d3, d4] }
  | _ => none }
def conesWaysRow : OpenClaim := { program := "ytipfjfmdjmaflaa", sum := "23e080627da887f3032bc3dd59749f5a9176c240ae44db55e49968f5baf52f70", func := "comfit/comfitlaw01.ConesWays", spec := "conesWays", unfollowed := true, recurses := true, plainKeys := false, apart := false }
def ConesWaysSaid : Prop := conesWaysRow.holds Try.pinned (OpenSpec.ofChange conesWaysSpec)

/-- ITS FALSE NEIGHBOUR: 'it returns false'. Refute it at one input. -/
def conesWaysWrong : ChangeSpec := { name := "conesWays", fn := fun _ => fun
  | [d1, d2, d3, d4] => { results := [.lit (.bool false)], args := [d1, d2, d3, d4] }
  | _ => none }
def ConesWaysWrongFalsely : Prop := conesWaysRow.holds Try.pinned (OpenSpec.ofChange conesWaysWrong)

/-- 'comfitlaw01.ConesLeads': WHATEVER THE INPUT: true; the input reads as it did. -/
def conesLeadsSpec : ChangeSpec := { name := "conesLeads", fn := fun _ => fun
  | [d1, d2, d3] => { results := [.lit (.bool true)], args := [d1, d2, d3] }
  | _ => none }
def conesLeadsRow : OpenClaim := { program := "ytipfjfmdjmaflaa", sum := "23e080627da887f3032bc3dd59749f5a9176c240ae44db55e49968f5baf52f70", func := "comfit/comfitlaw01.ConesLeads", spec := "conesLeads", unfollowed := true, recurses := true, plainKeys := false, apart := false }
def ConesLeadsSaid : Prop := conesLeadsRow.holds Try.pinned (OpenSpec.ofChange conesLeadsSpec)

/-- ITS FALSE NEIGHBOUR: 'it returns false'. Refute it at one input. -/
def conesLeadsWrong : ChangeSpec := { name := "conesLeads", fn := fun _ => fun
  | [d1, d2, d3] => { results := [.lit (.bool false)], args := [d1, d2, d3] }
  | _ => none }
def ConesLeadsWrongFalsely : Prop := conesLeadsRow.holds Try.pinned (OpenSpec.ofChange conesLeadsWrong)

/-- 'comfitlaw01.ConesPrices': WHATEVER THE INPUT: true; the input reads as it did. -/
def conesPricesSpec : ChangeSpec := { name := "conesPrices", fn := fun _ => fun
  | [d1, d2, d3] => { results := [.lit (.bool true)], args := [d1, d2, d3] }
  | _ => none }
def conesPricesRow : OpenClaim := { program := "ytipfjfmdjmaflaa", sum := "23e080627da887f3032bc3dd59749f5a9176c240ae44db55e49968f5baf52f70", func := "comfit/comfitlaw01.ConesPrices", spec := "conesPrices", unfollowed := true, recurses := true, plainKeys := false, apart := false }
def ConesPricesSaid : Prop := conesPricesRow.holds Try.pinned (OpenSpec.ofChange conesPricesSpec)

/-- ITS FALSE NEIGHBOUR: 'it returns false'. Refute it at one input. -/
def conesPricesWrong : ChangeSpec := { name := "conesPrices", fn := fun _ => fun
  | [d1, d2, d3] => { results := [.lit (.bool false)], args := [d1, d2, d3] }
  | _ => none }
def ConesPricesWrongFalsely : Prop := conesPricesRow.holds Try.pinned (OpenSpec.ofChange conesPricesWrong)

/-- 'comfitlaw01.ConesChain': WHATEVER THE INPUT: true; the input reads as it did. -/
def conesChainSpec : ChangeSpec := { name := "conesChain", fn := fun _ => fun
  | [d1, d2, d3] => { results := [.lit (.bool true)], args := [d1, d2, d3] }
  | _ => none }
def conesChainRow : OpenClaim := { program := "ytipfjfmdjmaflaa", sum := "23e080627da887f3032bc3dd59749f5a9176c240ae44db55e49968f5baf52f70", func := "comfit/comfitlaw01.ConesChain", spec := "conesChain", unfollowed := true, recurses := true, plainKeys := false, apart := false }
def ConesChainSaid : Prop := conesChainRow.holds Try.pinned (OpenSpec.ofChange conesChainSpec)

/-- ITS FALSE NEIGHBOUR: 'it returns false'. Refute it at one input. -/
def conesChainWrong : ChangeSpec := { name := "conesChain", fn := fun _ => fun
  | [d1, d2, d3] => { results := [.lit (.bool false)], args := [d1, d2, d3] }
  | _ => none }
def ConesChainWrongFalsely : Prop := conesChainRow.holds Try.pinned (OpenSpec.ofChange conesChainWrong)

/-- 'comfitlaw01.ConesMinimal': WHATEVER THE INPUT: true; the input reads as it did. -/
def conesMinimalSpec : ChangeSpec := { name := "conesMinimal", fn := fun _ => fun
  | [d] => { results := [.lit (.bool true)], args := [d] }
  | _ => none }
def conesMinimalRow : OpenClaim := { program := "ytipfjfmdjmaflaa", sum := "23e080627da887f3032bc3dd59749f5a9176c240ae44db55e49968f5baf52f70", func := "comfit/comfitlaw01.ConesMinimal", spec := "conesMinimal", unfollowed := true, recurses := true, plainKeys := false, apart := false }
def ConesMinimalSaid : Prop := conesMinimalRow.holds Try.pinned (OpenSpec.ofChange conesMinimalSpec)

/-- ITS FALSE NEIGHBOUR: 'it returns false'. Refute it at one input. -/
def conesMinimalWrong : ChangeSpec := { name := "conesMinimal", fn := fun _ => fun
  | [d] => { results := [.lit (.bool false)], args := [d] }
  | _ => none }
def ConesMinimalWrongFalsely : Prop := conesMinimalRow.holds Try.pinned (OpenSpec.ofChange conesMinimalWrong)

/-- 'comfitlaw01.ConesColumns': WHATEVER THE INPUT: true; the input reads as it did. -/
def conesColumnsSpec : ChangeSpec := { name := "conesColumns", fn := fun _ => fun
  | [d1, d2, d3] => { results := [.lit (.bool true)], args := [d1, d2, d3] }
  | _ => none }
def conesColumnsRow : OpenClaim := { program := "ytipfjfmdjmaflaa", sum := "23e080627da887f3032bc3dd59749f5a9176c240ae44db55e49968f5baf52f70", func := "comfit/comfitlaw01.ConesColumns", spec := "conesColumns", unfollowed := true, recurses := true, plainKeys := false, apart := false }
def ConesColumnsSaid : Prop := conesColumnsRow.holds Try.pinned (OpenSpec.ofChange conesColumnsSpec)

/-- ITS FALSE NEIGHBOUR: 'it returns false'. Refute it at one input. -/
def conesColumnsWrong : ChangeSpec := { name := "conesColumns", fn := fun _ => fun
  | [d1, d2, d3] => { results := [.lit (.bool false)], args := [d1, d2, d3] }
  | _ => none }
def ConesColumnsWrongFalsely : Prop := conesColumnsRow.holds Try.pinned (OpenSpec.ofChange conesColumnsWrong)

/-- 'comfitlaw01.ConesBasic': WHATEVER THE INPUT: true; the input reads as it did. -/
def conesBasicSpec : ChangeSpec := { name := "conesBasic", fn := fun _ => fun
  | [d] => { results := [.lit (.bool true)], args := [d] }
  | _ => none }
def conesBasicRow : OpenClaim := { program := "ytipfjfmdjmaflaa", sum := "23e080627da887f3032bc3dd59749f5a9176c240ae44db55e49968f5baf52f70", func := "comfit/comfitlaw01.ConesBasic", spec := "conesBasic", unfollowed := true, recurses := true, plainKeys := false, apart := false }
def ConesBasicSaid : Prop := conesBasicRow.holds Try.pinned (OpenSpec.ofChange conesBasicSpec)

/-- ITS FALSE NEIGHBOUR: 'it returns false'. Refute it at one input. -/
def conesBasicWrong : ChangeSpec := { name := "conesBasic", fn := fun _ => fun
  | [d] => { results := [.lit (.bool false)], args := [d] }
  | _ => none }
def ConesBasicWrongFalsely : Prop := conesBasicRow.holds Try.pinned (OpenSpec.ofChange conesBasicWrong)

/-- 'comfitlaw01.ConesPure': WHATEVER THE INPUT: true; the input reads as it did. -/
def conesPureSpec : ChangeSpec := { name := "conesPure", fn := fun _ => fun
  | [d1, d2] => { results := [.lit (.bool true)], args := [d1, d2] }
  | _ => none }
def conesPureRow : OpenClaim := { program := "ytipfjfmdjmaflaa", sum := "23e080627da887f3032bc3dd59749f5a9176c240ae44db55e49968f5baf52f70", func := "comfit/comfitlaw01.ConesPure", spec := "conesPure", unfollowed := true, recurses := true, plainKeys := false, apart := false }
def ConesPureSaid : Prop := conesPureRow.holds Try.pinned (OpenSpec.ofChange conesPureSpec)

/-- ITS FALSE NEIGHBOUR: 'it returns false'. Refute it at one input. -/
def conesPureWrong : ChangeSpec := { name := "conesPure", fn := fun _ => fun
  | [d1, d2] => { results := [.lit (.bool false)], args := [d1, d2] }
  | _ => none }
def ConesPureWrongFalsely : Prop := conesPureRow.holds Try.pinned (OpenSpec.ofChange conesPureWrong)

/-- 'comfitlaw01.ConesSplits': WHATEVER THE INPUT: true; the input reads as it did. -/
def conesSplitsSpec : ChangeSpec := { name := "conesSplits", fn := fun _ => fun
  | [d1, d2, d3] => { results := [.lit (.bool true)], args := [d1, d2, d3] }
  | _ => none }
def conesSplitsRow : OpenClaim := { program := "ytipfjfmdjmaflaa", sum := "23e080627da887f3032bc3dd59749f5a9176c240ae44db55e49968f5baf52f70", func := "comfit/comfitlaw01.ConesSplits", spec := "conesSplits", unfollowed := true, recurses := true, plainKeys := false, apart := false }
def ConesSplitsSaid : Prop := conesSplitsRow.holds Try.pinned (OpenSpec.ofChange conesSplitsSpec)

/-- ITS FALSE NEIGHBOUR: 'it returns false'. Refute it at one input. -/
def conesSplitsWrong : ChangeSpec := { name := "conesSplits", fn := fun _ => fun
  | [d1, d2, d3] => { results := [.lit (.bool false)], args := [d1, d2, d3] }
  | _ => none }
def ConesSplitsWrongFalsely : Prop := conesSplitsRow.holds Try.pinned (OpenSpec.ofChange conesSplitsWrong)

/-- 'comfitlaw01.ConesSums': WHATEVER THE INPUT: true; the input reads as it did. -/
def conesSumsSpec : ChangeSpec := { name := "conesSums", fn := fun _ => fun
  | [d1, d2] => { results := [.lit (.bool true)], args := [d1, d2] }
  | _ => none }
def conesSumsRow : OpenClaim := { program := "ytipfjfmdjmaflaa", sum := "23e080627da887f3032bc3dd59749f5a9176c240ae44db55e49968f5baf52f70", func := "comfit/comfitlaw01.ConesSums", spec := "conesSums", unfollowed := true, recurses := true, plainKeys := false, apart := false }
def ConesSumsSaid : Prop := conesSumsRow.holds Try.pinned (OpenSpec.ofChange conesSumsSpec)

/-- ITS FALSE NEIGHBOUR: 'it returns false'. Refute it at one input. -/
def conesSumsWrong : ChangeSpec := { name := "conesSums", fn := fun _ => fun
  | [d1, d2] => { results := [.lit (.bool false)], args := [d1, d2] }
  | _ => none }
def ConesSumsWrongFalsely : Prop := conesSumsRow.holds Try.pinned (OpenSpec.ofChange conesSumsWrong)

/-- 'comfitlaw01.ConesRows': WHATEVER THE INPUT: true; the input reads as it did. -/
def conesRowsSpec : ChangeSpec := { name := "conesRows", fn := fun _ => fun
  | [d1, d2, d3, d4] => { results := [.lit (.bool true)], args := [d1, d2, d3, d4] }
  | _ => none }
def conesRowsRow : OpenClaim := { program := "ytipfjfmdjmaflaa", sum := "23e080627da887f3032bc3dd59749f5a9176c240ae44db55e49968f5baf52f70", func := "comfit/comfitlaw01.ConesRows", spec := "conesRows", unfollowed := true, recurses := true, plainKeys := false, apart := false }
def ConesRowsSaid : Prop := conesRowsRow.holds Try.pinned (OpenSpec.ofChange conesRowsSpec)

/-- ITS FALSE NEIGHBOUR: 'it returns false'. Refute it at one input. -/
def conesRowsWrong : ChangeSpec := { name := "conesRows", fn := fun _ => fun
  | [d1, d2, d3, d4] => { results := [.lit (.bool false)], args := [d1, d2, d3, d4] }
  | _ => none }
def ConesRowsWrongFalsely : Prop := conesRowsRow.holds Try.pinned (OpenSpec.ofChange conesRowsWrong)

/-- 'comfitlaw01.ConesAlone': WHATEVER THE INPUT: true; the input reads as it did. -/
def conesAloneSpec : ChangeSpec := { name := "conesAlone", fn := fun _ => fun
  | [d1, d2] => { results := [.lit (.bool true)], args := [d1, d2] }
  | _ => none }
def conesAloneRow : OpenClaim := { program := "ytipfjfmdjmaflaa", sum := "23e080627da887f3032bc3dd59749f5a9176c240ae44db55e49968f5baf52f70", func := "comfit/comfitlaw01.ConesAlone", spec := "conesAlone", unfollowed := true, recurses := true, plainKeys := false, apart := false }
def ConesAloneSaid : Prop := conesAloneRow.holds Try.pinned (OpenSpec.ofChange conesAloneSpec)

/-- ITS FALSE NEIGHBOUR: 'it returns false'. Refute it at one input. -/
def conesAloneWrong : ChangeSpec := { name := "conesAlone", fn := fun _ => fun
  | [d1, d2] => { results := [.lit (.bool false)], args := [d1, d2] }
  | _ => none }
def ConesAloneWrongFalsely : Prop := conesAloneRow.holds Try.pinned (OpenSpec.ofChange conesAloneWrong)

/-- 'comfitlaw01.ConesFamilies': WHATEVER THE INPUT: true; the input reads as it did. -/
def conesFamiliesSpec : ChangeSpec := { name := "conesFamilies", fn := fun _ => fun
  | [d1, d2] => { results := [.lit (.bool true)], args := [d1, d2] }
  | _ => none }
def conesFamiliesRow : OpenClaim := { program := "ytipfjfmdjmaflaa", sum := "23e080627da887f3032bc3dd59749f5a9176c240ae44db55e49968f5baf52f70", func := "comfit/comfitlaw01.ConesFamilies", spec := "conesFamilies", unfollowed := true, recurses := true, plainKeys := false, apart := false }
def ConesFamiliesSaid : Prop := conesFamiliesRow.holds Try.pinned (OpenSpec.ofChange conesFamiliesSpec)

/-- ITS FALSE NEIGHBOUR: 'it returns false'. Refute it at one input. -/
def conesFamiliesWrong : ChangeSpec := { name := "conesFamilies", fn := fun _ => fun
  | [d1, d2] => { results := [.lit (.bool false)], args := [d1, d2] }
  | _ => none }
def ConesFamiliesWrongFalsely : Prop := conesFamiliesRow.holds Try.pinned (OpenSpec.ofChange conesFamiliesWrong)

/- THE SECOND FORM. 'bulk': how many values and letters a reading holds, each counted each time it is reached (what is shared counts as often as it is met; a slice's spare places count too). A statement '..UptoSaid' is the law's where the arguments, and the package variables that the reading takes, are together of bulk at most 1048576: NARROWER than '..Said'. Prove '..Said' where nothing that the law and all that it calls make is longer than what came in: it says more and counts as full. Else prove '..UptoSaid'. A law counts once. -/
mutual
def uptoBulk {H : Type} : DataW H → Nat
  | .lit (.string bytes) => bytes.length + 1
  | .lit _ => 1
  | .nil => 1
  | .ptr d => uptoBulk d + 1
  | .slice elems spare => uptoBulkAll elems + uptoBulkAll spare + 1
  | .agg parts => uptoBulkAll parts + 1
  | .iface _ d => uptoBulk d + 1
  | .map entries => uptoBulkEntries entries + 1
  | .held _ => 1
def uptoBulkAll {H : Type} : List (DataW H) → Nat
  | [] => 0
  | d :: r => uptoBulk d + uptoBulkAll r
def uptoBulkEntries {H : Type} : List (Lit × DataW H) → Nat
  | [] => 0
  | x :: r => uptoBulkEntry x + uptoBulkEntries r
def uptoBulkEntry {H : Type} : Lit × DataW H → Nat
  | (.string bytes, d) => bytes.length + uptoBulk d + 1
  | (_, d) => uptoBulk d + 1
 end
def uptoSmall : (H : Type) → List (DataW H) → Bool := fun _ ds => decide (uptoBulkAll ds ≤ 1048576)
def OpenSpec.upto (s : _root_.Go.ChangeSpec) : _root_.Go.OpenSpec := { _root_.Go.OpenSpec.ofChange s with cond := some uptoSmall }

/-- 'comfitlaw01.ConesTimes', WHERE WHAT IT READS IS OF BULK AT MOST 1048576: true; the input reads as it did. -/
def conesTimesUptoRow : OpenClaim := { program := "ytipfjfmdjmaflaa", sum := "23e080627da887f3032bc3dd59749f5a9176c240ae44db55e49968f5baf52f70", func := "comfit/comfitlaw01.ConesTimes", spec := "conesTimes", plainKeys := false, apart := false, narrowed := true }
def ConesTimesUptoSaid : Prop := conesTimesUptoRow.holds Try.pinned (OpenSpec.upto conesTimesSpec)

/-- 'comfitlaw01.ConesWays', WHERE WHAT IT READS IS OF BULK AT MOST 1048576: true; the input reads as it did. -/
def conesWaysUptoRow : OpenClaim := { program := "ytipfjfmdjmaflaa", sum := "23e080627da887f3032bc3dd59749f5a9176c240ae44db55e49968f5baf52f70", func := "comfit/comfitlaw01.ConesWays", spec := "conesWays", unfollowed := true, recurses := true, plainKeys := false, apart := false, narrowed := true }
def ConesWaysUptoSaid : Prop := conesWaysUptoRow.holds Try.pinned (OpenSpec.upto conesWaysSpec)

/-- 'comfitlaw01.ConesLeads', WHERE WHAT IT READS IS OF BULK AT MOST 1048576: true; the input reads as it did. -/
def conesLeadsUptoRow : OpenClaim := { program := "ytipfjfmdjmaflaa", sum := "23e080627da887f3032bc3dd59749f5a9176c240ae44db55e49968f5baf52f70", func := "comfit/comfitlaw01.ConesLeads", spec := "conesLeads", unfollowed := true, recurses := true, plainKeys := false, apart := false, narrowed := true }
def ConesLeadsUptoSaid : Prop := conesLeadsUptoRow.holds Try.pinned (OpenSpec.upto conesLeadsSpec)

/-- 'comfitlaw01.ConesPrices', WHERE WHAT IT READS IS OF BULK AT MOST 1048576: true; the input reads as it did. -/
def conesPricesUptoRow : OpenClaim := { program := "ytipfjfmdjmaflaa", sum := "23e080627da887f3032bc3dd59749f5a9176c240ae44db55e49968f5baf52f70", func := "comfit/comfitlaw01.ConesPrices", spec := "conesPrices", unfollowed := true, recurses := true, plainKeys := false, apart := false, narrowed := true }
def ConesPricesUptoSaid : Prop := conesPricesUptoRow.holds Try.pinned (OpenSpec.upto conesPricesSpec)

/-- 'comfitlaw01.ConesChain', WHERE WHAT IT READS IS OF BULK AT MOST 1048576: true; the input reads as it did. -/
def conesChainUptoRow : OpenClaim := { program := "ytipfjfmdjmaflaa", sum := "23e080627da887f3032bc3dd59749f5a9176c240ae44db55e49968f5baf52f70", func := "comfit/comfitlaw01.ConesChain", spec := "conesChain", unfollowed := true, recurses := true, plainKeys := false, apart := false, narrowed := true }
def ConesChainUptoSaid : Prop := conesChainUptoRow.holds Try.pinned (OpenSpec.upto conesChainSpec)

/-- 'comfitlaw01.ConesMinimal', WHERE WHAT IT READS IS OF BULK AT MOST 1048576: true; the input reads as it did. -/
def conesMinimalUptoRow : OpenClaim := { program := "ytipfjfmdjmaflaa", sum := "23e080627da887f3032bc3dd59749f5a9176c240ae44db55e49968f5baf52f70", func := "comfit/comfitlaw01.ConesMinimal", spec := "conesMinimal", unfollowed := true, recurses := true, plainKeys := false, apart := false, narrowed := true }
def ConesMinimalUptoSaid : Prop := conesMinimalUptoRow.holds Try.pinned (OpenSpec.upto conesMinimalSpec)

/-- 'comfitlaw01.ConesColumns', WHERE WHAT IT READS IS OF BULK AT MOST 1048576: true; the input reads as it did. -/
def conesColumnsUptoRow : OpenClaim := { program := "ytipfjfmdjmaflaa", sum := "23e080627da887f3032bc3dd59749f5a9176c240ae44db55e49968f5baf52f70", func := "comfit/comfitlaw01.ConesColumns", spec := "conesColumns", unfollowed := true, recurses := true, plainKeys := false, apart := false, narrowed := true }
def ConesColumnsUptoSaid : Prop := conesColumnsUptoRow.holds Try.pinned (OpenSpec.upto conesColumnsSpec)

/-- 'comfitlaw01.ConesBasic', WHERE WHAT IT READS IS OF BULK AT MOST 1048576: true; the input reads as it did. -/
def conesBasicUptoRow : OpenClaim := { program := "ytipfjfmdjmaflaa", sum := "23e080627da887f3032bc3dd59749f5a9176c240ae44db55e49968f5baf52f70", func := "comfit/comfitlaw01.ConesBasic", spec := "conesBasic", unfollowed := true, recurses := true, plainKeys := false, apart := false, narrowed := true }
def ConesBasicUptoSaid : Prop := conesBasicUptoRow.holds Try.pinned (OpenSpec.upto conesBasicSpec)

/-- 'comfitlaw01.ConesPure', WHERE WHAT IT READS IS OF BULK AT MOST 1048576: true; the input reads as it did. -/
def conesPureUptoRow : OpenClaim := { program := "ytipfjfmdjmaflaa", sum := "23e080627da887f3032bc3dd59749f5a9176c240ae44db55e49968f5baf52f70", func := "comfit/comfitlaw01.ConesPure", spec := "conesPure", unfollowed := true, recurses := true, plainKeys := false, apart := false, narrowed := true }
def ConesPureUptoSaid : Prop := conesPureUptoRow.holds Try.pinned (OpenSpec.upto conesPureSpec)

/-- 'comfitlaw01.ConesSplits', WHERE WHAT IT READS IS OF BULK AT MOST 1048576: true; the input reads as it did. -/
def conesSplitsUptoRow : OpenClaim := { program := "ytipfjfmdjmaflaa", sum := "23e080627da887f3032bc3dd59749f5a9176c240ae44db55e49968f5baf52f70", func := "comfit/comfitlaw01.ConesSplits", spec := "conesSplits", unfollowed := true, recurses := true, plainKeys := false, apart := false, narrowed := true }
def ConesSplitsUptoSaid : Prop := conesSplitsUptoRow.holds Try.pinned (OpenSpec.upto conesSplitsSpec)

/-- 'comfitlaw01.ConesSums', WHERE WHAT IT READS IS OF BULK AT MOST 1048576: true; the input reads as it did. -/
def conesSumsUptoRow : OpenClaim := { program := "ytipfjfmdjmaflaa", sum := "23e080627da887f3032bc3dd59749f5a9176c240ae44db55e49968f5baf52f70", func := "comfit/comfitlaw01.ConesSums", spec := "conesSums", unfollowed := true, recurses := true, plainKeys := false, apart := false, narrowed := true }
def ConesSumsUptoSaid : Prop := conesSumsUptoRow.holds Try.pinned (OpenSpec.upto conesSumsSpec)

/-- 'comfitlaw01.ConesRows', WHERE WHAT IT READS IS OF BULK AT MOST 1048576: true; the input reads as it did. -/
def conesRowsUptoRow : OpenClaim := { program := "ytipfjfmdjmaflaa", sum := "23e080627da887f3032bc3dd59749f5a9176c240ae44db55e49968f5baf52f70", func := "comfit/comfitlaw01.ConesRows", spec := "conesRows", unfollowed := true, recurses := true, plainKeys := false, apart := false, narrowed := true }
def ConesRowsUptoSaid : Prop := conesRowsUptoRow.holds Try.pinned (OpenSpec.upto conesRowsSpec)

/-- 'comfitlaw01.ConesAlone', WHERE WHAT IT READS IS OF BULK AT MOST 1048576: true; the input reads as it did. -/
def conesAloneUptoRow : OpenClaim := { program := "ytipfjfmdjmaflaa", sum := "23e080627da887f3032bc3dd59749f5a9176c240ae44db55e49968f5baf52f70", func := "comfit/comfitlaw01.ConesAlone", spec := "conesAlone", unfollowed := true, recurses := true, plainKeys := false, apart := false, narrowed := true }
def ConesAloneUptoSaid : Prop := conesAloneUptoRow.holds Try.pinned (OpenSpec.upto conesAloneSpec)

/-- 'comfitlaw01.ConesFamilies', WHERE WHAT IT READS IS OF BULK AT MOST 1048576: true; the input reads as it did. -/
def conesFamiliesUptoRow : OpenClaim := { program := "ytipfjfmdjmaflaa", sum := "23e080627da887f3032bc3dd59749f5a9176c240ae44db55e49968f5baf52f70", func := "comfit/comfitlaw01.ConesFamilies", spec := "conesFamilies", unfollowed := true, recurses := true, plainKeys := false, apart := false, narrowed := true }
def ConesFamiliesUptoSaid : Prop := conesFamiliesUptoRow.holds Try.pinned (OpenSpec.upto conesFamiliesSpec)

end Rows
end Go.Proofs.Ytipfjfmdjmaflaa
