/-
  No cell of these rows narrows 'for every input' (looked for: loops, veiled, ifaces, maps, wideKeys, modest, calm, conditions, laid).
  DERIVED. THE GIVEN ROWS OF THIS SEAT. 12 by the template 'for every input the law returns true; each argument reads behind the call as it read before'; 0 by the template 'total and deterministic' (their statements: YtgimgddlipbniaaTotals.lean).
  GIVEN WITH THE SEED: the statements are not yours to turn. If you find one false, say at which input.
  Laid BY PROGRAM, IN A SANDBOX (cutbox-rows.mjs): the forced cells as the released guide's own fill.sh prints them over the translation d8f6e6b04eff6934… (all of the seat's roots in one cut). By AI agents, Wed Nov 11 2026. No macro, syntax, notation, axiom, sorry.
-/
import Derived.Test.YtgimgddlipbniaaChecked
import GoSem.Claim
import GoSem.ClaimJoined
import GoSem.ClaimMapViews
import Derived.JoinedTies
import Derived.KernelRfl
namespace Go.Proofs.Ytgimgddlipbniaa
/- THE CELL 'sum', in the pinned program and in every row, IS THE sha256 OF THE DUMP (.gsa) THAT YtgimgddlipbniaaProg.lean LOADS. Nothing in Lean hashes anything: it is a label: what it is worth is what the hold of that sum in a sandbox is worth. -/
noncomputable def Try.pinned : Pinned := { name := "ytgimgddlipbniaa", sum := "d8f6e6b04eff693421fd7a75d84d733eed338e44b07aea9349de497a869b36d4", checked := Try.checked }
namespace Rows
def none {H : Type} : Left H := { results := [], args := [] }

/-- 'scrivenerlaw01.SumStands': WHATEVER THE INPUT: true; the input reads as it did. -/
def sumStandsSpec : ChangeSpec := { name := "sumStands", fn := fun _ => fun
  | [d] => { results := [.lit (.bool true)], args := [d] }
  | _ => none }
def sumStandsRow : OpenClaim := { program := "ytgimgddlipbniaa", sum := "d8f6e6b04eff693421fd7a75d84d733eed338e44b07aea9349de497a869b36d4", func := "scrivener/scrivenerlaw01.SumStands", spec := "sumStands", unfollowed := true, recurses := true, apart := false }
def SumStandsSaid : Prop := sumStandsRow.holds Try.pinned (OpenSpec.ofChange sumStandsSpec)

/-- ITS FALSE NEIGHBOUR: 'it returns false'. Refute it at one input. -/
def sumStandsWrong : ChangeSpec := { name := "sumStands", fn := fun _ => fun
  | [d] => { results := [.lit (.bool false)], args := [d] }
  | _ => none }
def SumStandsWrongFalsely : Prop := sumStandsRow.holds Try.pinned (OpenSpec.ofChange sumStandsWrong)

/-- 'scrivenerlaw01.SumBlocks': WHATEVER THE INPUT: true; the input reads as it did. -/
def sumBlocksSpec : ChangeSpec := { name := "sumBlocks", fn := fun _ => fun
  | [d1, d2] => { results := [.lit (.bool true)], args := [d1, d2] }
  | _ => none }
def sumBlocksRow : OpenClaim := { program := "ytgimgddlipbniaa", sum := "d8f6e6b04eff693421fd7a75d84d733eed338e44b07aea9349de497a869b36d4", func := "scrivener/scrivenerlaw01.SumBlocks", spec := "sumBlocks", unfollowed := true, recurses := true, apart := false }
def SumBlocksSaid : Prop := sumBlocksRow.holds Try.pinned (OpenSpec.ofChange sumBlocksSpec)

/-- ITS FALSE NEIGHBOUR: 'it returns false'. Refute it at one input. -/
def sumBlocksWrong : ChangeSpec := { name := "sumBlocks", fn := fun _ => fun
  | [d1, d2] => { results := [.lit (.bool false)], args := [d1, d2] }
  | _ => none }
def SumBlocksWrongFalsely : Prop := sumBlocksRow.holds Try.pinned (OpenSpec.ofChange sumBlocksWrong)

/-- 'scrivenerlaw01.SumRuns': WHATEVER THE INPUT: true; the input reads as it did. -/
def sumRunsSpec : ChangeSpec := { name := "sumRuns", fn := fun _ => fun
  | [d1, d2] => { results := [.lit (.bool true)], args := [d1, d2] }
  | _ => none }
def sumRunsRow : OpenClaim := { program := "ytgimgddlipbniaa", sum := "d8f6e6b04eff693421fd7a75d84d733eed338e44b07aea9349de497a869b36d4", func := "scrivener/scrivenerlaw01.SumRuns", spec := "sumRuns", unfollowed := true, recurses := true, apart := false }
def SumRunsSaid : Prop := sumRunsRow.holds Try.pinned (OpenSpec.ofChange sumRunsSpec)

/-- ITS FALSE NEIGHBOUR: 'it returns false'. Refute it at one input. -/
def sumRunsWrong : ChangeSpec := { name := "sumRuns", fn := fun _ => fun
  | [d1, d2] => { results := [.lit (.bool false)], args := [d1, d2] }
  | _ => none }
def SumRunsWrongFalsely : Prop := sumRunsRow.holds Try.pinned (OpenSpec.ofChange sumRunsWrong)

/-- 'scrivenerlaw01.SumCounts': WHATEVER THE INPUT: true; the input reads as it did. -/
def sumCountsSpec : ChangeSpec := { name := "sumCounts", fn := fun _ => fun
  | [d] => { results := [.lit (.bool true)], args := [d] }
  | _ => none }
def sumCountsRow : OpenClaim := { program := "ytgimgddlipbniaa", sum := "d8f6e6b04eff693421fd7a75d84d733eed338e44b07aea9349de497a869b36d4", func := "scrivener/scrivenerlaw01.SumCounts", spec := "sumCounts", unfollowed := true, recurses := true, apart := false }
def SumCountsSaid : Prop := sumCountsRow.holds Try.pinned (OpenSpec.ofChange sumCountsSpec)

/-- ITS FALSE NEIGHBOUR: 'it returns false'. Refute it at one input. -/
def sumCountsWrong : ChangeSpec := { name := "sumCounts", fn := fun _ => fun
  | [d] => { results := [.lit (.bool false)], args := [d] }
  | _ => none }
def SumCountsWrongFalsely : Prop := sumCountsRow.holds Try.pinned (OpenSpec.ofChange sumCountsWrong)

/-- 'scrivenerlaw01.SumApart': WHATEVER THE INPUT: true; the input reads as it did. -/
def sumApartSpec : ChangeSpec := { name := "sumApart", fn := fun _ => fun
  | [d1, d2] => { results := [.lit (.bool true)], args := [d1, d2] }
  | _ => none }
def sumApartRow : OpenClaim := { program := "ytgimgddlipbniaa", sum := "d8f6e6b04eff693421fd7a75d84d733eed338e44b07aea9349de497a869b36d4", func := "scrivener/scrivenerlaw01.SumApart", spec := "sumApart", unfollowed := true, recurses := true, apart := false }
def SumApartSaid : Prop := sumApartRow.holds Try.pinned (OpenSpec.ofChange sumApartSpec)

/-- ITS FALSE NEIGHBOUR: 'it returns false'. Refute it at one input. -/
def sumApartWrong : ChangeSpec := { name := "sumApart", fn := fun _ => fun
  | [d1, d2] => { results := [.lit (.bool false)], args := [d1, d2] }
  | _ => none }
def SumApartWrongFalsely : Prop := sumApartRow.holds Try.pinned (OpenSpec.ofChange sumApartWrong)

/-- 'scrivenerlaw01.SumPurposes': WHATEVER THE INPUT: true; the input reads as it did. -/
def sumPurposesSpec : ChangeSpec := { name := "sumPurposes", fn := fun _ => fun
  | [d1, d2, d3] => { results := [.lit (.bool true)], args := [d1, d2, d3] }
  | _ => none }
def sumPurposesRow : OpenClaim := { program := "ytgimgddlipbniaa", sum := "d8f6e6b04eff693421fd7a75d84d733eed338e44b07aea9349de497a869b36d4", func := "scrivener/scrivenerlaw01.SumPurposes", spec := "sumPurposes", unfollowed := true, recurses := true, apart := false }
def SumPurposesSaid : Prop := sumPurposesRow.holds Try.pinned (OpenSpec.ofChange sumPurposesSpec)

/-- ITS FALSE NEIGHBOUR: 'it returns false'. Refute it at one input. -/
def sumPurposesWrong : ChangeSpec := { name := "sumPurposes", fn := fun _ => fun
  | [d1, d2, d3] => { results := [.lit (.bool false)], args := [d1, d2, d3] }
  | _ => none }
def SumPurposesWrongFalsely : Prop := sumPurposesRow.holds Try.pinned (OpenSpec.ofChange sumPurposesWrong)

/-- 'scrivenerlaw05.TreeRoots': WHATEVER THE INPUT: true; the input reads as it did. -/
def treeRootsSpec : ChangeSpec := { name := "treeRoots", fn := fun _ => fun
  | [d1, d2] => { results := [.lit (.bool true)], args := [d1, d2] }
  | _ => none }
def treeRootsRow : OpenClaim := { program := "ytgimgddlipbniaa", sum := "d8f6e6b04eff693421fd7a75d84d733eed338e44b07aea9349de497a869b36d4", func := "scrivener/scrivenerlaw05.TreeRoots", spec := "treeRoots", unfollowed := true, recurses := true, apart := false }
def TreeRootsSaid : Prop := treeRootsRow.holds Try.pinned (OpenSpec.ofChange treeRootsSpec)

/-- ITS FALSE NEIGHBOUR: 'it returns false'. Refute it at one input. -/
def treeRootsWrong : ChangeSpec := { name := "treeRoots", fn := fun _ => fun
  | [d1, d2] => { results := [.lit (.bool false)], args := [d1, d2] }
  | _ => none }
def TreeRootsWrongFalsely : Prop := treeRootsRow.holds Try.pinned (OpenSpec.ofChange treeRootsWrong)

/-- 'scrivenerlaw05.TreeSplits': WHATEVER THE INPUT: true; the input reads as it did. -/
def treeSplitsSpec : ChangeSpec := { name := "treeSplits", fn := fun _ => fun
  | [d] => { results := [.lit (.bool true)], args := [d] }
  | _ => none }
def treeSplitsRow : OpenClaim := { program := "ytgimgddlipbniaa", sum := "d8f6e6b04eff693421fd7a75d84d733eed338e44b07aea9349de497a869b36d4", func := "scrivener/scrivenerlaw05.TreeSplits", spec := "treeSplits", unfollowed := true, recurses := true, apart := false }
def TreeSplitsSaid : Prop := treeSplitsRow.holds Try.pinned (OpenSpec.ofChange treeSplitsSpec)

/-- ITS FALSE NEIGHBOUR: 'it returns false'. Refute it at one input. -/
def treeSplitsWrong : ChangeSpec := { name := "treeSplits", fn := fun _ => fun
  | [d] => { results := [.lit (.bool false)], args := [d] }
  | _ => none }
def TreeSplitsWrongFalsely : Prop := treeSplitsRow.holds Try.pinned (OpenSpec.ofChange treeSplitsWrong)

/-- 'scrivenerlaw05.TreeSteps': WHATEVER THE INPUT: true; the input reads as it did. -/
def treeStepsSpec : ChangeSpec := { name := "treeSteps", fn := fun _ => fun
  | [d] => { results := [.lit (.bool true)], args := [d] }
  | _ => none }
def treeStepsRow : OpenClaim := { program := "ytgimgddlipbniaa", sum := "d8f6e6b04eff693421fd7a75d84d733eed338e44b07aea9349de497a869b36d4", func := "scrivener/scrivenerlaw05.TreeSteps", spec := "treeSteps", unfollowed := true, recurses := true, apart := false }
def TreeStepsSaid : Prop := treeStepsRow.holds Try.pinned (OpenSpec.ofChange treeStepsSpec)

/-- ITS FALSE NEIGHBOUR: 'it returns false'. Refute it at one input. -/
def treeStepsWrong : ChangeSpec := { name := "treeSteps", fn := fun _ => fun
  | [d] => { results := [.lit (.bool false)], args := [d] }
  | _ => none }
def TreeStepsWrongFalsely : Prop := treeStepsRow.holds Try.pinned (OpenSpec.ofChange treeStepsWrong)

/-- 'scrivenerlaw05.TreePeaks': WHATEVER THE INPUT: true; the input reads as it did. -/
def treePeaksSpec : ChangeSpec := { name := "treePeaks", fn := fun _ => fun
  | [d1, d2] => { results := [.lit (.bool true)], args := [d1, d2] }
  | _ => none }
def treePeaksRow : OpenClaim := { program := "ytgimgddlipbniaa", sum := "d8f6e6b04eff693421fd7a75d84d733eed338e44b07aea9349de497a869b36d4", func := "scrivener/scrivenerlaw05.TreePeaks", spec := "treePeaks", unfollowed := true, recurses := true, apart := false }
def TreePeaksSaid : Prop := treePeaksRow.holds Try.pinned (OpenSpec.ofChange treePeaksSpec)

/-- ITS FALSE NEIGHBOUR: 'it returns false'. Refute it at one input. -/
def treePeaksWrong : ChangeSpec := { name := "treePeaks", fn := fun _ => fun
  | [d1, d2] => { results := [.lit (.bool false)], args := [d1, d2] }
  | _ => none }
def TreePeaksWrongFalsely : Prop := treePeaksRow.holds Try.pinned (OpenSpec.ofChange treePeaksWrong)

/-- 'scrivenerlaw05.TreeRestores': WHATEVER THE INPUT: true; the input reads as it did. -/
def treeRestoresSpec : ChangeSpec := { name := "treeRestores", fn := fun _ => fun
  | [d1, d2, d3] => { results := [.lit (.bool true)], args := [d1, d2, d3] }
  | _ => none }
def treeRestoresRow : OpenClaim := { program := "ytgimgddlipbniaa", sum := "d8f6e6b04eff693421fd7a75d84d733eed338e44b07aea9349de497a869b36d4", func := "scrivener/scrivenerlaw05.TreeRestores", spec := "treeRestores", unfollowed := true, recurses := true, apart := false }
def TreeRestoresSaid : Prop := treeRestoresRow.holds Try.pinned (OpenSpec.ofChange treeRestoresSpec)

/-- ITS FALSE NEIGHBOUR: 'it returns false'. Refute it at one input. -/
def treeRestoresWrong : ChangeSpec := { name := "treeRestores", fn := fun _ => fun
  | [d1, d2, d3] => { results := [.lit (.bool false)], args := [d1, d2, d3] }
  | _ => none }
def TreeRestoresWrongFalsely : Prop := treeRestoresRow.holds Try.pinned (OpenSpec.ofChange treeRestoresWrong)

/-- 'scrivenerlaw05.TreeApart': WHATEVER THE INPUT: true; the input reads as it did. -/
def treeApartSpec : ChangeSpec := { name := "treeApart", fn := fun _ => fun
  | [d1, d2, d3] => { results := [.lit (.bool true)], args := [d1, d2, d3] }
  | _ => none }
def treeApartRow : OpenClaim := { program := "ytgimgddlipbniaa", sum := "d8f6e6b04eff693421fd7a75d84d733eed338e44b07aea9349de497a869b36d4", func := "scrivener/scrivenerlaw05.TreeApart", spec := "treeApart", unfollowed := true, recurses := true, apart := false }
def TreeApartSaid : Prop := treeApartRow.holds Try.pinned (OpenSpec.ofChange treeApartSpec)

/-- ITS FALSE NEIGHBOUR: 'it returns false'. Refute it at one input. -/
def treeApartWrong : ChangeSpec := { name := "treeApart", fn := fun _ => fun
  | [d1, d2, d3] => { results := [.lit (.bool false)], args := [d1, d2, d3] }
  | _ => none }
def TreeApartWrongFalsely : Prop := treeApartRow.holds Try.pinned (OpenSpec.ofChange treeApartWrong)

/- THE SECOND FORM. 'bulk': how many values and letters a reading holds, each counted each time it is reached (what is shared counts as often as it is met; a slice's spare places count too). A statement '..UptoSaid' is the law's where the arguments, and the package variables that the reading takes, are together of bulk at most 1048576: NARROWER than '..Said'. Prove '..Said' where nothing that the law and all that it calls make is longer than what came in: it says more and counts as full. Else prove '..UptoSaid'. A law counts once. -/
mutual
def uptoBulk {H : Type} : DataW H → Nat
  | .lit (.string bytes) => bytes.length + 1
  | .lit _ => 1
  | .nil => 1
  | .ptr d => uptoBulk d + 1
  | .slice elems spare => uptoBulkAll elems + uptoBulkAll spare + 1
  | .agg parts => uptoBulkAll parts + 1
  | .iface _ d => uptoBulk d + 1
  | .map entries => uptoBulkEntries entries + 1
  | .held _ => 1
def uptoBulkAll {H : Type} : List (DataW H) → Nat
  | [] => 0
  | d :: r => uptoBulk d + uptoBulkAll r
def uptoBulkEntries {H : Type} : List (Lit × DataW H) → Nat
  | [] => 0
  | x :: r => uptoBulkEntry x + uptoBulkEntries r
def uptoBulkEntry {H : Type} : Lit × DataW H → Nat
  | (.string bytes, d) => bytes.length + uptoBulk d + 1
  | (_, d) => uptoBulk d + 1
 end
def uptoSmall : (H : Type) → List (DataW H) → Bool := fun _ ds => decide (uptoBulkAll ds ≤ 1048576)
def OpenSpec.upto (s : _root_.Go.ChangeSpec) : _root_.Go.OpenSpec := { _root_.Go.OpenSpec.ofChange s with cond := some uptoSmall }

/-- 'scrivenerlaw01.SumStands', WHERE WHAT IT READS IS OF BULK AT MOST 1048576: true; the input reads as it did. -/
def sumStandsUptoRow : OpenClaim := { program := "ytgimgddlipbniaa", sum := "d8f6e6b04eff693421fd7a75d84d733eed338e44b07aea9349de497a869b36d4", func := "scrivener/scrivenerlaw01.SumStands", spec := "sumStands", unfollowed := true, recurses := true, apart := false, narrowed := true }
def SumStandsUptoSaid : Prop := sumStandsUptoRow.holds Try.pinned (OpenSpec.upto sumStandsSpec)

/-- 'scrivenerlaw01.SumBlocks', WHERE WHAT IT READS IS OF BULK AT MOST 1048576: true; the input reads as it did. -/
def sumBlocksUptoRow : OpenClaim := { program := "ytgimgddlipbniaa", sum := "d8f6e6b04eff693421fd7a75d84d733eed338e44b07aea9349de497a869b36d4", func := "scrivener/scrivenerlaw01.SumBlocks", spec := "sumBlocks", unfollowed := true, recurses := true, apart := false, narrowed := true }
def SumBlocksUptoSaid : Prop := sumBlocksUptoRow.holds Try.pinned (OpenSpec.upto sumBlocksSpec)

/-- 'scrivenerlaw01.SumRuns', WHERE WHAT IT READS IS OF BULK AT MOST 1048576: true; the input reads as it did. -/
def sumRunsUptoRow : OpenClaim := { program := "ytgimgddlipbniaa", sum := "d8f6e6b04eff693421fd7a75d84d733eed338e44b07aea9349de497a869b36d4", func := "scrivener/scrivenerlaw01.SumRuns", spec := "sumRuns", unfollowed := true, recurses := true, apart := false, narrowed := true }
def SumRunsUptoSaid : Prop := sumRunsUptoRow.holds Try.pinned (OpenSpec.upto sumRunsSpec)

/-- 'scrivenerlaw01.SumCounts', WHERE WHAT IT READS IS OF BULK AT MOST 1048576: true; the input reads as it did. -/
def sumCountsUptoRow : OpenClaim := { program := "ytgimgddlipbniaa", sum := "d8f6e6b04eff693421fd7a75d84d733eed338e44b07aea9349de497a869b36d4", func := "scrivener/scrivenerlaw01.SumCounts", spec := "sumCounts", unfollowed := true, recurses := true, apart := false, narrowed := true }
def SumCountsUptoSaid : Prop := sumCountsUptoRow.holds Try.pinned (OpenSpec.upto sumCountsSpec)

/-- 'scrivenerlaw01.SumApart', WHERE WHAT IT READS IS OF BULK AT MOST 1048576: true; the input reads as it did. -/
def sumApartUptoRow : OpenClaim := { program := "ytgimgddlipbniaa", sum := "d8f6e6b04eff693421fd7a75d84d733eed338e44b07aea9349de497a869b36d4", func := "scrivener/scrivenerlaw01.SumApart", spec := "sumApart", unfollowed := true, recurses := true, apart := false, narrowed := true }
def SumApartUptoSaid : Prop := sumApartUptoRow.holds Try.pinned (OpenSpec.upto sumApartSpec)

/-- 'scrivenerlaw01.SumPurposes', WHERE WHAT IT READS IS OF BULK AT MOST 1048576: true; the input reads as it did. -/
def sumPurposesUptoRow : OpenClaim := { program := "ytgimgddlipbniaa", sum := "d8f6e6b04eff693421fd7a75d84d733eed338e44b07aea9349de497a869b36d4", func := "scrivener/scrivenerlaw01.SumPurposes", spec := "sumPurposes", unfollowed := true, recurses := true, apart := false, narrowed := true }
def SumPurposesUptoSaid : Prop := sumPurposesUptoRow.holds Try.pinned (OpenSpec.upto sumPurposesSpec)

/-- 'scrivenerlaw05.TreeRoots', WHERE WHAT IT READS IS OF BULK AT MOST 1048576: true; the input reads as it did. -/
def treeRootsUptoRow : OpenClaim := { program := "ytgimgddlipbniaa", sum := "d8f6e6b04eff693421fd7a75d84d733eed338e44b07aea9349de497a869b36d4", func := "scrivener/scrivenerlaw05.TreeRoots", spec := "treeRoots", unfollowed := true, recurses := true, apart := false, narrowed := true }
def TreeRootsUptoSaid : Prop := treeRootsUptoRow.holds Try.pinned (OpenSpec.upto treeRootsSpec)

/-- 'scrivenerlaw05.TreeSplits', WHERE WHAT IT READS IS OF BULK AT MOST 1048576: true; the input reads as it did. -/
def treeSplitsUptoRow : OpenClaim := { program := "ytgimgddlipbniaa", sum := "d8f6e6b04eff693421fd7a75d84d733eed338e44b07aea9349de497a869b36d4", func := "scrivener/scrivenerlaw05.TreeSplits", spec := "treeSplits", unfollowed := true, recurses := true, apart := false, narrowed := true }
def TreeSplitsUptoSaid : Prop := treeSplitsUptoRow.holds Try.pinned (OpenSpec.upto treeSplitsSpec)

/-- 'scrivenerlaw05.TreeSteps', WHERE WHAT IT READS IS OF BULK AT MOST 1048576: true; the input reads as it did. -/
def treeStepsUptoRow : OpenClaim := { program := "ytgimgddlipbniaa", sum := "d8f6e6b04eff693421fd7a75d84d733eed338e44b07aea9349de497a869b36d4", func := "scrivener/scrivenerlaw05.TreeSteps", spec := "treeSteps", unfollowed := true, recurses := true, apart := false, narrowed := true }
def TreeStepsUptoSaid : Prop := treeStepsUptoRow.holds Try.pinned (OpenSpec.upto treeStepsSpec)

/-- 'scrivenerlaw05.TreePeaks', WHERE WHAT IT READS IS OF BULK AT MOST 1048576: true; the input reads as it did. -/
def treePeaksUptoRow : OpenClaim := { program := "ytgimgddlipbniaa", sum := "d8f6e6b04eff693421fd7a75d84d733eed338e44b07aea9349de497a869b36d4", func := "scrivener/scrivenerlaw05.TreePeaks", spec := "treePeaks", unfollowed := true, recurses := true, apart := false, narrowed := true }
def TreePeaksUptoSaid : Prop := treePeaksUptoRow.holds Try.pinned (OpenSpec.upto treePeaksSpec)

/-- 'scrivenerlaw05.TreeRestores', WHERE WHAT IT READS IS OF BULK AT MOST 1048576: true; the input reads as it did. -/
def treeRestoresUptoRow : OpenClaim := { program := "ytgimgddlipbniaa", sum := "d8f6e6b04eff693421fd7a75d84d733eed338e44b07aea9349de497a869b36d4", func := "scrivener/scrivenerlaw05.TreeRestores", spec := "treeRestores", unfollowed := true, recurses := true, apart := false, narrowed := true }
def TreeRestoresUptoSaid : Prop := treeRestoresUptoRow.holds Try.pinned (OpenSpec.upto treeRestoresSpec)

/-- 'scrivenerlaw05.TreeApart', WHERE WHAT IT READS IS OF BULK AT MOST 1048576: true; the input reads as it did. -/
def treeApartUptoRow : OpenClaim := { program := "ytgimgddlipbniaa", sum := "d8f6e6b04eff693421fd7a75d84d733eed338e44b07aea9349de497a869b36d4", func := "scrivener/scrivenerlaw05.TreeApart", spec := "treeApart", unfollowed := true, recurses := true, apart := false, narrowed := true }
def TreeApartUptoSaid : Prop := treeApartUptoRow.holds Try.pinned (OpenSpec.upto treeApartSpec)

end Rows
end Go.Proofs.Ytgimgddlipbniaa
