/-
  No cell of these rows narrows 'for every input' (looked for: loops, veiled, ifaces, maps, wideKeys, modest, calm, conditions, laid).
  DERIVED. THE GIVEN ROWS OF THIS SEAT. 12 by the template 'for every input the law returns true; each argument reads behind the call as it read before'; 0 by the template 'total and deterministic' (their statements: YtajgklomcapboaaTotals.lean).
  GIVEN WITH THE SEED: the statements are not yours to turn. If you find one false, say at which input.
  Laid BY PROGRAM, IN A SANDBOX (cutbox-rows.mjs): the forced cells as the released guide's own fill.sh prints them over the translation a1776dedb9a889c0… (all of the seat's roots in one cut). By AI agents, Wed Nov 11 2026. No macro, syntax, notation, axiom, sorry.
-/
import Derived.Test.YtajgklomcapboaaChecked
import GoSem.Claim
import GoSem.ClaimJoined
import GoSem.ClaimMapViews
import Derived.JoinedTies
import Derived.KernelRfl
namespace Go.Proofs.Ytajgklomcapboaa
/- THE CELL 'sum', in the pinned program and in every row, IS THE sha256 OF THE DUMP (.gsa) THAT YtajgklomcapboaaProg.lean LOADS. Nothing in Lean hashes anything: it is a label: what it is worth is what the hold of that sum in a sandbox is worth. -/
noncomputable def Try.pinned : Pinned := { name := "ytajgklomcapboaa", sum := "a1776dedb9a889c005e5bd2596dd7db591ea46ca98ce9d25f0f4cb0979d54bf5", checked := Try.checked }
namespace Rows
def none {H : Type} : Left H := { results := [], args := [] }

/-- 'scrivenerlaw07.ShortLists': WHATEVER THE INPUT: true; the input reads as it did. -/
def shortListsSpec : ChangeSpec := { name := "shortLists", fn := fun _ => fun
  | [d1, d2, d3] => { results := [.lit (.bool true)], args := [d1, d2, d3] }
  | _ => none }
def shortListsRow : OpenClaim := { program := "ytajgklomcapboaa", sum := "a1776dedb9a889c005e5bd2596dd7db591ea46ca98ce9d25f0f4cb0979d54bf5", func := "scrivener/scrivenerlaw07.ShortLists", spec := "shortLists", unfollowed := true, recurses := true, apart := false }
def ShortListsSaid : Prop := shortListsRow.holds Try.pinned (OpenSpec.ofChange shortListsSpec)

/-- ITS FALSE NEIGHBOUR: 'it returns false'. Refute it at one input. -/
def shortListsWrong : ChangeSpec := { name := "shortLists", fn := fun _ => fun
  | [d1, d2, d3] => { results := [.lit (.bool false)], args := [d1, d2, d3] }
  | _ => none }
def ShortListsWrongFalsely : Prop := shortListsRow.holds Try.pinned (OpenSpec.ofChange shortListsWrong)

/-- 'scrivenerlaw07.ShortKeeps': WHATEVER THE INPUT: true; the input reads as it did. -/
def shortKeepsSpec : ChangeSpec := { name := "shortKeeps", fn := fun _ => fun
  | [d1, d2] => { results := [.lit (.bool true)], args := [d1, d2] }
  | _ => none }
def shortKeepsRow : OpenClaim := { program := "ytajgklomcapboaa", sum := "a1776dedb9a889c005e5bd2596dd7db591ea46ca98ce9d25f0f4cb0979d54bf5", func := "scrivener/scrivenerlaw07.ShortKeeps", spec := "shortKeeps", unfollowed := true, recurses := true, apart := false }
def ShortKeepsSaid : Prop := shortKeepsRow.holds Try.pinned (OpenSpec.ofChange shortKeepsSpec)

/-- ITS FALSE NEIGHBOUR: 'it returns false'. Refute it at one input. -/
def shortKeepsWrong : ChangeSpec := { name := "shortKeeps", fn := fun _ => fun
  | [d1, d2] => { results := [.lit (.bool false)], args := [d1, d2] }
  | _ => none }
def ShortKeepsWrongFalsely : Prop := shortKeepsRow.holds Try.pinned (OpenSpec.ofChange shortKeepsWrong)

/-- 'scrivenerlaw07.ShortLeads': WHATEVER THE INPUT: true; the input reads as it did. -/
def shortLeadsSpec : ChangeSpec := { name := "shortLeads", fn := fun _ => fun
  | [d1, d2, d3] => { results := [.lit (.bool true)], args := [d1, d2, d3] }
  | _ => none }
def shortLeadsRow : OpenClaim := { program := "ytajgklomcapboaa", sum := "a1776dedb9a889c005e5bd2596dd7db591ea46ca98ce9d25f0f4cb0979d54bf5", func := "scrivener/scrivenerlaw07.ShortLeads", spec := "shortLeads", unfollowed := true, recurses := true, apart := false }
def ShortLeadsSaid : Prop := shortLeadsRow.holds Try.pinned (OpenSpec.ofChange shortLeadsSpec)

/-- ITS FALSE NEIGHBOUR: 'it returns false'. Refute it at one input. -/
def shortLeadsWrong : ChangeSpec := { name := "shortLeads", fn := fun _ => fun
  | [d1, d2, d3] => { results := [.lit (.bool false)], args := [d1, d2, d3] }
  | _ => none }
def ShortLeadsWrongFalsely : Prop := shortLeadsRow.holds Try.pinned (OpenSpec.ofChange shortLeadsWrong)

/-- 'scrivenerlaw07.ShortRoots': WHATEVER THE INPUT: true; the input reads as it did. -/
def shortRootsSpec : ChangeSpec := { name := "shortRoots", fn := fun _ => fun
  | [d1, d2, d3] => { results := [.lit (.bool true)], args := [d1, d2, d3] }
  | _ => none }
def shortRootsRow : OpenClaim := { program := "ytajgklomcapboaa", sum := "a1776dedb9a889c005e5bd2596dd7db591ea46ca98ce9d25f0f4cb0979d54bf5", func := "scrivener/scrivenerlaw07.ShortRoots", spec := "shortRoots", unfollowed := true, recurses := true, apart := false }
def ShortRootsSaid : Prop := shortRootsRow.holds Try.pinned (OpenSpec.ofChange shortRootsSpec)

/-- ITS FALSE NEIGHBOUR: 'it returns false'. Refute it at one input. -/
def shortRootsWrong : ChangeSpec := { name := "shortRoots", fn := fun _ => fun
  | [d1, d2, d3] => { results := [.lit (.bool false)], args := [d1, d2, d3] }
  | _ => none }
def ShortRootsWrongFalsely : Prop := shortRootsRow.holds Try.pinned (OpenSpec.ofChange shortRootsWrong)

/-- 'scrivenerlaw07.ShortEntry': WHATEVER THE INPUT: true; the input reads as it did. -/
def shortEntrySpec : ChangeSpec := { name := "shortEntry", fn := fun _ => fun
  | [d1, d2, d3] => { results := [.lit (.bool true)], args := [d1, d2, d3] }
  | _ => none }
def shortEntryRow : OpenClaim := { program := "ytajgklomcapboaa", sum := "a1776dedb9a889c005e5bd2596dd7db591ea46ca98ce9d25f0f4cb0979d54bf5", func := "scrivener/scrivenerlaw07.ShortEntry", spec := "shortEntry", unfollowed := true, recurses := true, apart := false }
def ShortEntrySaid : Prop := shortEntryRow.holds Try.pinned (OpenSpec.ofChange shortEntrySpec)

/-- ITS FALSE NEIGHBOUR: 'it returns false'. Refute it at one input. -/
def shortEntryWrong : ChangeSpec := { name := "shortEntry", fn := fun _ => fun
  | [d1, d2, d3] => { results := [.lit (.bool false)], args := [d1, d2, d3] }
  | _ => none }
def ShortEntryWrongFalsely : Prop := shortEntryRow.holds Try.pinned (OpenSpec.ofChange shortEntryWrong)

/-- 'scrivenerlaw06.ProofIncludes': WHATEVER THE INPUT: true; the input reads as it did. -/
def proofIncludesSpec : ChangeSpec := { name := "proofIncludes", fn := fun _ => fun
  | [d1, d2] => { results := [.lit (.bool true)], args := [d1, d2] }
  | _ => none }
def proofIncludesRow : OpenClaim := { program := "ytajgklomcapboaa", sum := "a1776dedb9a889c005e5bd2596dd7db591ea46ca98ce9d25f0f4cb0979d54bf5", func := "scrivener/scrivenerlaw06.ProofIncludes", spec := "proofIncludes", unfollowed := true, recurses := true, apart := false }
def ProofIncludesSaid : Prop := proofIncludesRow.holds Try.pinned (OpenSpec.ofChange proofIncludesSpec)

/-- ITS FALSE NEIGHBOUR: 'it returns false'. Refute it at one input. -/
def proofIncludesWrong : ChangeSpec := { name := "proofIncludes", fn := fun _ => fun
  | [d1, d2] => { results := [.lit (.bool false)], args := [d1, d2] }
  | _ => none }
def ProofIncludesWrongFalsely : Prop := proofIncludesRow.holds Try.pinned (OpenSpec.ofChange proofIncludesWrong)

/-- 'scrivenerlaw06.ProofBegins': WHATEVER THE INPUT: true; the input reads as it did. -/
def proofBeginsSpec : ChangeSpec := { name := "proofBegins", fn := fun _ => fun
  | [d1, d2] => { results := [.lit (.bool true)], args := [d1, d2] }
  | _ => none }
def proofBeginsRow : OpenClaim := { program := "ytajgklomcapboaa", sum := "a1776dedb9a889c005e5bd2596dd7db591ea46ca98ce9d25f0f4cb0979d54bf5", func := "scrivener/scrivenerlaw06.ProofBegins", spec := "proofBegins", unfollowed := true, recurses := true, apart := false }
def ProofBeginsSaid : Prop := proofBeginsRow.holds Try.pinned (OpenSpec.ofChange proofBeginsSpec)

/-- ITS FALSE NEIGHBOUR: 'it returns false'. Refute it at one input. -/
def proofBeginsWrong : ChangeSpec := { name := "proofBegins", fn := fun _ => fun
  | [d1, d2] => { results := [.lit (.bool false)], args := [d1, d2] }
  | _ => none }
def ProofBeginsWrongFalsely : Prop := proofBeginsRow.holds Try.pinned (OpenSpec.ofChange proofBeginsWrong)

/-- 'scrivenerlaw06.ProofChecks': WHATEVER THE INPUT: true; the input reads as it did. -/
def proofChecksSpec : ChangeSpec := { name := "proofChecks", fn := fun _ => fun
  | [d] => { results := [.lit (.bool true)], args := [d] }
  | _ => none }
def proofChecksRow : OpenClaim := { program := "ytajgklomcapboaa", sum := "a1776dedb9a889c005e5bd2596dd7db591ea46ca98ce9d25f0f4cb0979d54bf5", func := "scrivener/scrivenerlaw06.ProofChecks", spec := "proofChecks", unfollowed := true, recurses := true, apart := false }
def ProofChecksSaid : Prop := proofChecksRow.holds Try.pinned (OpenSpec.ofChange proofChecksSpec)

/-- ITS FALSE NEIGHBOUR: 'it returns false'. Refute it at one input. -/
def proofChecksWrong : ChangeSpec := { name := "proofChecks", fn := fun _ => fun
  | [d] => { results := [.lit (.bool false)], args := [d] }
  | _ => none }
def ProofChecksWrongFalsely : Prop := proofChecksRow.holds Try.pinned (OpenSpec.ofChange proofChecksWrong)

/-- 'scrivenerlaw06.ProofLinks': WHATEVER THE INPUT: true; the input reads as it did. -/
def proofLinksSpec : ChangeSpec := { name := "proofLinks", fn := fun _ => fun
  | [d] => { results := [.lit (.bool true)], args := [d] }
  | _ => none }
def proofLinksRow : OpenClaim := { program := "ytajgklomcapboaa", sum := "a1776dedb9a889c005e5bd2596dd7db591ea46ca98ce9d25f0f4cb0979d54bf5", func := "scrivener/scrivenerlaw06.ProofLinks", spec := "proofLinks", unfollowed := true, recurses := true, apart := false }
def ProofLinksSaid : Prop := proofLinksRow.holds Try.pinned (OpenSpec.ofChange proofLinksSpec)

/-- ITS FALSE NEIGHBOUR: 'it returns false'. Refute it at one input. -/
def proofLinksWrong : ChangeSpec := { name := "proofLinks", fn := fun _ => fun
  | [d] => { results := [.lit (.bool false)], args := [d] }
  | _ => none }
def ProofLinksWrongFalsely : Prop := proofLinksRow.holds Try.pinned (OpenSpec.ofChange proofLinksWrong)

/-- 'scrivenerlaw06.ProofWrong': WHATEVER THE INPUT: true; the input reads as it did. -/
def proofWrongSpec : ChangeSpec := { name := "proofWrong", fn := fun _ => fun
  | [d1, d2, d3] => { results := [.lit (.bool true)], args := [d1, d2, d3] }
  | _ => none }
def proofWrongRow : OpenClaim := { program := "ytajgklomcapboaa", sum := "a1776dedb9a889c005e5bd2596dd7db591ea46ca98ce9d25f0f4cb0979d54bf5", func := "scrivener/scrivenerlaw06.ProofWrong", spec := "proofWrong", unfollowed := true, recurses := true, apart := false }
def ProofWrongSaid : Prop := proofWrongRow.holds Try.pinned (OpenSpec.ofChange proofWrongSpec)

/-- ITS FALSE NEIGHBOUR: 'it returns false'. Refute it at one input. -/
def proofWrongWrong : ChangeSpec := { name := "proofWrong", fn := fun _ => fun
  | [d1, d2, d3] => { results := [.lit (.bool false)], args := [d1, d2, d3] }
  | _ => none }
def ProofWrongWrongFalsely : Prop := proofWrongRow.holds Try.pinned (OpenSpec.ofChange proofWrongWrong)

/-- 'scrivenerlaw06.ProofAll': WHATEVER THE INPUT: true; the input reads as it did. -/
def proofAllSpec : ChangeSpec := { name := "proofAll", fn := fun _ => fun
  | [d] => { results := [.lit (.bool true)], args := [d] }
  | _ => none }
def proofAllRow : OpenClaim := { program := "ytajgklomcapboaa", sum := "a1776dedb9a889c005e5bd2596dd7db591ea46ca98ce9d25f0f4cb0979d54bf5", func := "scrivener/scrivenerlaw06.ProofAll", spec := "proofAll", unfollowed := true, recurses := true, apart := false }
def ProofAllSaid : Prop := proofAllRow.holds Try.pinned (OpenSpec.ofChange proofAllSpec)

/-- ITS FALSE NEIGHBOUR: 'it returns false'. Refute it at one input. -/
def proofAllWrong : ChangeSpec := { name := "proofAll", fn := fun _ => fun
  | [d] => { results := [.lit (.bool false)], args := [d] }
  | _ => none }
def ProofAllWrongFalsely : Prop := proofAllRow.holds Try.pinned (OpenSpec.ofChange proofAllWrong)

/-- 'scrivenerlaw06.ProofRanges': WHATEVER THE INPUT: true; the input reads as it did. -/
def proofRangesSpec : ChangeSpec := { name := "proofRanges", fn := fun _ => fun
  | [d1, d2, d3] => { results := [.lit (.bool true)], args := [d1, d2, d3] }
  | _ => none }
def proofRangesRow : OpenClaim := { program := "ytajgklomcapboaa", sum := "a1776dedb9a889c005e5bd2596dd7db591ea46ca98ce9d25f0f4cb0979d54bf5", func := "scrivener/scrivenerlaw06.ProofRanges", spec := "proofRanges", unfollowed := true, recurses := true, apart := false }
def ProofRangesSaid : Prop := proofRangesRow.holds Try.pinned (OpenSpec.ofChange proofRangesSpec)

/-- ITS FALSE NEIGHBOUR: 'it returns false'. Refute it at one input. -/
def proofRangesWrong : ChangeSpec := { name := "proofRanges", fn := fun _ => fun
  | [d1, d2, d3] => { results := [.lit (.bool false)], args := [d1, d2, d3] }
  | _ => none }
def ProofRangesWrongFalsely : Prop := proofRangesRow.holds Try.pinned (OpenSpec.ofChange proofRangesWrong)

/- THE SECOND FORM. 'bulk': how many values and letters a reading holds, each counted each time it is reached (what is shared counts as often as it is met; a slice's spare places count too). A statement '..UptoSaid' is the law's where the arguments, and the package variables that the reading takes, are together of bulk at most 1048576: NARROWER than '..Said'. Prove '..Said' where nothing that the law and all that it calls make is longer than what came in: it says more and counts as full. Else prove '..UptoSaid'. A law counts once. -/
mutual
def uptoBulk {H : Type} : DataW H → Nat
  | .lit (.string bytes) => bytes.length + 1
  | .lit _ => 1
  | .nil => 1
  | .ptr d => uptoBulk d + 1
  | .slice elems spare => uptoBulkAll elems + uptoBulkAll spare + 1
  | .agg parts => uptoBulkAll parts + 1
  | .iface _ d => uptoBulk d + 1
  | .map entries => uptoBulkEntries entries + 1
  | .held _ => 1
def uptoBulkAll {H : Type} : List (DataW H) → Nat
  | [] => 0
  | d :: r => uptoBulk d + uptoBulkAll r
def uptoBulkEntries {H : Type} : List (Lit × DataW H) → Nat
  | [] => 0
  | x :: r => uptoBulkEntry x + uptoBulkEntries r
def uptoBulkEntry {H : Type} : Lit × DataW H → Nat
  | (.string bytes, d) => bytes.length + uptoBulk d + 1
  | (_, d) => uptoBulk d + 1
 end
def uptoSmall : (H : Type) → List (DataW H) → Bool := fun _ ds => decide (uptoBulkAll ds ≤ 1048576)
def OpenSpec.upto (s : _root_.Go.ChangeSpec) : _root_.Go.OpenSpec := { _root_.Go.OpenSpec.ofChange s with cond := some uptoSmall }

/-- 'scrivenerlaw07.ShortLists', WHERE WHAT IT READS IS OF BULK AT MOST 1048576: true; the input reads as it did. -/
def shortListsUptoRow : OpenClaim := { program := "ytajgklomcapboaa", sum := "a1776dedb9a889c005e5bd2596dd7db591ea46ca98ce9d25f0f4cb0979d54bf5", func := "scrivener/scrivenerlaw07.ShortLists", spec := "shortLists", unfollowed := true, recurses := true, apart := false, narrowed := true }
def ShortListsUptoSaid : Prop := shortListsUptoRow.holds Try.pinned (OpenSpec.upto shortListsSpec)

/-- 'scrivenerlaw07.ShortKeeps', WHERE WHAT IT READS IS OF BULK AT MOST 1048576: true; the input reads as it did. -/
def shortKeepsUptoRow : OpenClaim := { program := "ytajgklomcapboaa", sum := "a1776dedb9a889c005e5bd2596dd7db591ea46ca98ce9d25f0f4cb0979d54bf5", func := "scrivener/scrivenerlaw07.ShortKeeps", spec := "shortKeeps", unfollowed := true, recurses := true, apart := false, narrowed := true }
def ShortKeepsUptoSaid : Prop := shortKeepsUptoRow.holds Try.pinned (OpenSpec.upto shortKeepsSpec)

/-- 'scrivenerlaw07.ShortLeads', WHERE WHAT IT READS IS OF BULK AT MOST 1048576: true; the input reads as it did. -/
def shortLeadsUptoRow : OpenClaim := { program := "ytajgklomcapboaa", sum := "a1776dedb9a889c005e5bd2596dd7db591ea46ca98ce9d25f0f4cb0979d54bf5", func := "scrivener/scrivenerlaw07.ShortLeads", spec := "shortLeads", unfollowed := true, recurses := true, apart := false, narrowed := true }
def ShortLeadsUptoSaid : Prop := shortLeadsUptoRow.holds Try.pinned (OpenSpec.upto shortLeadsSpec)

/-- 'scrivenerlaw07.ShortRoots', WHERE WHAT IT READS IS OF BULK AT MOST 1048576: true; the input reads as it did. -/
def shortRootsUptoRow : OpenClaim := { program := "ytajgklomcapboaa", sum := "a1776dedb9a889c005e5bd2596dd7db591ea46ca98ce9d25f0f4cb0979d54bf5", func := "scrivener/scrivenerlaw07.ShortRoots", spec := "shortRoots", unfollowed := true, recurses := true, apart := false, narrowed := true }
def ShortRootsUptoSaid : Prop := shortRootsUptoRow.holds Try.pinned (OpenSpec.upto shortRootsSpec)

/-- 'scrivenerlaw07.ShortEntry', WHERE WHAT IT READS IS OF BULK AT MOST 1048576: true; the input reads as it did. -/
def shortEntryUptoRow : OpenClaim := { program := "ytajgklomcapboaa", sum := "a1776dedb9a889c005e5bd2596dd7db591ea46ca98ce9d25f0f4cb0979d54bf5", func := "scrivener/scrivenerlaw07.ShortEntry", spec := "shortEntry", unfollowed := true, recurses := true, apart := false, narrowed := true }
def ShortEntryUptoSaid : Prop := shortEntryUptoRow.holds Try.pinned (OpenSpec.upto shortEntrySpec)

/-- 'scrivenerlaw06.ProofIncludes', WHERE WHAT IT READS IS OF BULK AT MOST 1048576: true; the input reads as it did. -/
def proofIncludesUptoRow : OpenClaim := { program := "ytajgklomcapboaa", sum := "a1776dedb9a889c005e5bd2596dd7db591ea46ca98ce9d25f0f4cb0979d54bf5", func := "scrivener/scrivenerlaw06.ProofIncludes", spec := "proofIncludes", unfollowed := true, recurses := true, apart := false, narrowed := true }
def ProofIncludesUptoSaid : Prop := proofIncludesUptoRow.holds Try.pinned (OpenSpec.upto proofIncludesSpec)

/-- 'scrivenerlaw06.ProofBegins', WHERE WHAT IT READS IS OF BULK AT MOST 1048576: true; the input reads as it did. -/
def proofBeginsUptoRow : OpenClaim := { program := "ytajgklomcapboaa", sum := "a1776dedb9a889c005e5bd2596dd7db591ea46ca98ce9d25f0f4cb0979d54bf5", func := "scrivener/scrivenerlaw06.ProofBegins", spec := "proofBegins", unfollowed := true, recurses := true, apart := false, narrowed := true }
def ProofBeginsUptoSaid : Prop := proofBeginsUptoRow.holds Try.pinned (OpenSpec.upto proofBeginsSpec)

/-- 'scrivenerlaw06.ProofChecks', WHERE WHAT IT READS IS OF BULK AT MOST 1048576: true; the input reads as it did. -/
def proofChecksUptoRow : OpenClaim := { program := "ytajgklomcapboaa", sum := "a1776dedb9a889c005e5bd2596dd7db591ea46ca98ce9d25f0f4cb0979d54bf5", func := "scrivener/scrivenerlaw06.ProofChecks", spec := "proofChecks", unfollowed := true, recurses := true, apart := false, narrowed := true }
def ProofChecksUptoSaid : Prop := proofChecksUptoRow.holds Try.pinned (OpenSpec.upto proofChecksSpec)

/-- 'scrivenerlaw06.ProofLinks', WHERE WHAT IT READS IS OF BULK AT MOST 1048576: true; the input reads as it did. -/
def proofLinksUptoRow : OpenClaim := { program := "ytajgklomcapboaa", sum := "a1776dedb9a889c005e5bd2596dd7db591ea46ca98ce9d25f0f4cb0979d54bf5", func := "scrivener/scrivenerlaw06.ProofLinks", spec := "proofLinks", unfollowed := true, recurses := true, apart := false, narrowed := true }
def ProofLinksUptoSaid : Prop := proofLinksUptoRow.holds Try.pinned (OpenSpec.upto proofLinksSpec)

/-- 'scrivenerlaw06.ProofWrong', WHERE WHAT IT READS IS OF BULK AT MOST 1048576: true; the input reads as it did. -/
def proofWrongUptoRow : OpenClaim := { program := "ytajgklomcapboaa", sum := "a1776dedb9a889c005e5bd2596dd7db591ea46ca98ce9d25f0f4cb0979d54bf5", func := "scrivener/scrivenerlaw06.ProofWrong", spec := "proofWrong", unfollowed := true, recurses := true, apart := false, narrowed := true }
def ProofWrongUptoSaid : Prop := proofWrongUptoRow.holds Try.pinned (OpenSpec.upto proofWrongSpec)

/-- 'scrivenerlaw06.ProofAll', WHERE WHAT IT READS IS OF BULK AT MOST 1048576: true; the input reads as it did. -/
def proofAllUptoRow : OpenClaim := { program := "ytajgklomcapboaa", sum := "a1776dedb9a889c005e5bd2596dd7db591ea46ca98ce9d25f0f4cb0979d54bf5", func := "scrivener/scrivenerlaw06.ProofAll", spec := "proofAll", unfollowed := true, recurses := true, apart := false, narrowed := true }
def ProofAllUptoSaid : Prop := proofAllUptoRow.holds Try.pinned (OpenSpec.upto proofAllSpec)

/-- 'scrivenerlaw06.ProofRanges', WHERE WHAT IT READS IS OF BULK AT MOST 1048576: true; the input reads as it did. -/
def proofRangesUptoRow : OpenClaim := { program := "ytajgklomcapboaa", sum := "a1776dedb9a889c005e5bd2596dd7db591ea46ca98ce9d25f0f4cb0979d54bf5", func := "scrivener/scrivenerlaw06.ProofRanges", spec := "proofRanges", unfollowed := true, recurses := true, apart := false, narrowed := true }
def ProofRangesUptoSaid : Prop := proofRangesUptoRow.holds Try.pinned (OpenSpec.upto proofRangesSpec)

end Rows
end Go.Proofs.Ytajgklomcapboaa
