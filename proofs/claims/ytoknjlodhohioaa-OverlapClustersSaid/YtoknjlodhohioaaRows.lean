/-
  No cell of these rows narrows 'for every input' (looked for: loops, veiled, ifaces, maps, wideKeys, modest, calm, conditions, laid).
  DERIVED. THE GIVEN ROWS OF THIS SEAT. 6 by the template 'for every input the law returns true; each argument reads behind the call as it read before'; 0 by the template 'total and deterministic' (their statements: YtoknjlodhohioaaTotals.lean).
  GIVEN WITH THE SEED: the statements are not yours to turn. If you find one false, say at which input.
  Laid BY PROGRAM, IN A SANDBOX (cutbox-rows.mjs): the forced cells as the released guide's own fill.sh prints them over the translation 2364f92a264cf97a… (all of the seat's roots in one cut). By AI agents, Wed Nov 11 2026. No macro, syntax, notation, axiom, sorry.
-/
import Derived.Test.YtoknjlodhohioaaChecked
import GoSem.Claim
import GoSem.ClaimJoined
import GoSem.ClaimMapViews
import Derived.JoinedTies
import Derived.KernelRfl
namespace Go.Proofs.Ytoknjlodhohioaa
/- THE CELL 'sum', in the pinned program and in every row, IS THE sha256 OF THE DUMP (.gsa) THAT YtoknjlodhohioaaProg.lean LOADS. Nothing in Lean hashes anything: it is a label: what it is worth is what the hold of that sum in a sandbox is worth. -/
noncomputable def Try.pinned : Pinned := { name := "ytoknjlodhohioaa", sum := "2364f92a264cf97a3134253bfbec899395b37d0f304f069e7812cfedce1350d2", checked := Try.checked }
namespace Rows
def none {H : Type} : Left H := { results := [], args := [] }

/-- 'mapsheetslaw48.OverlapHits': WHATEVER THE INPUT: true; the input reads as it did. -/
def overlapHitsSpec : ChangeSpec := { name := "overlapHits", fn := fun _ => fun
  | [d1, d2] => { results := [.lit (.bool true)], args := [d1, d2] }
  | _ => none }
def overlapHitsRow : OpenClaim := { program := "ytoknjlodhohioaa", sum := "2364f92a264cf97a3134253bfbec899395b37d0f304f069e7812cfedce1350d2", func := "mapsheets/mapsheetslaw48.OverlapHits", spec := "overlapHits", unfollowed := true, recurses := true, apart := false }
def OverlapHitsSaid : Prop := overlapHitsRow.holds Try.pinned (OpenSpec.ofChange overlapHitsSpec)

/-- ITS FALSE NEIGHBOUR: 'it returns false'. Refute it at one input. -/
def overlapHitsWrong : ChangeSpec := { name := "overlapHits", fn := fun _ => fun
  | [d1, d2] => { results := [.lit (.bool false)], args := [d1, d2] }
  | _ => none }
def OverlapHitsWrongFalsely : Prop := overlapHitsRow.holds Try.pinned (OpenSpec.ofChange overlapHitsWrong)

/-- 'mapsheetslaw48.OverlapPairs': WHATEVER THE INPUT: true; the input reads as it did. -/
def overlapPairsSpec : ChangeSpec := { name := "overlapPairs", fn := fun _ => fun
  | [d] => { results := [.lit (.bool true)], args := [d] }
  | _ => none }
def overlapPairsRow : OpenClaim := { program := "ytoknjlodhohioaa", sum := "2364f92a264cf97a3134253bfbec899395b37d0f304f069e7812cfedce1350d2", func := "mapsheets/mapsheetslaw48.OverlapPairs", spec := "overlapPairs", unfollowed := true, recurses := true, apart := false }
def OverlapPairsSaid : Prop := overlapPairsRow.holds Try.pinned (OpenSpec.ofChange overlapPairsSpec)

/-- ITS FALSE NEIGHBOUR: 'it returns false'. Refute it at one input. -/
def overlapPairsWrong : ChangeSpec := { name := "overlapPairs", fn := fun _ => fun
  | [d] => { results := [.lit (.bool false)], args := [d] }
  | _ => none }
def OverlapPairsWrongFalsely : Prop := overlapPairsRow.holds Try.pinned (OpenSpec.ofChange overlapPairsWrong)

/-- 'mapsheetslaw48.OverlapClusters': WHATEVER THE INPUT: true; the input reads as it did. -/
def overlapClustersSpec : ChangeSpec := { name := "overlapClusters", fn := fun _ => fun
  | [d] => { results := [.lit (.bool true)], args := [d] }
  | _ => none }
def overlapClustersRow : OpenClaim := { program := "ytoknjlodhohioaa", sum := "2364f92a264cf97a3134253bfbec899395b37d0f304f069e7812cfedce1350d2", func := "mapsheets/mapsheetslaw48.OverlapClusters", spec := "overlapClusters", unfollowed := true, recurses := true, apart := false }
def OverlapClustersSaid : Prop := overlapClustersRow.holds Try.pinned (OpenSpec.ofChange overlapClustersSpec)

/-- ITS FALSE NEIGHBOUR: 'it returns false'. Refute it at one input. -/
def overlapClustersWrong : ChangeSpec := { name := "overlapClusters", fn := fun _ => fun
  | [d] => { results := [.lit (.bool false)], args := [d] }
  | _ => none }
def OverlapClustersWrongFalsely : Prop := overlapClustersRow.holds Try.pinned (OpenSpec.ofChange overlapClustersWrong)

/-- 'mapsheetslaw48.OverlapGroups': WHATEVER THE INPUT: true; the input reads as it did. -/
def overlapGroupsSpec : ChangeSpec := { name := "overlapGroups", fn := fun _ => fun
  | [d] => { results := [.lit (.bool true)], args := [d] }
  | _ => none }
def overlapGroupsRow : OpenClaim := { program := "ytoknjlodhohioaa", sum := "2364f92a264cf97a3134253bfbec899395b37d0f304f069e7812cfedce1350d2", func := "mapsheets/mapsheetslaw48.OverlapGroups", spec := "overlapGroups", unfollowed := true, recurses := true, apart := false }
def OverlapGroupsSaid : Prop := overlapGroupsRow.holds Try.pinned (OpenSpec.ofChange overlapGroupsSpec)

/-- ITS FALSE NEIGHBOUR: 'it returns false'. Refute it at one input. -/
def overlapGroupsWrong : ChangeSpec := { name := "overlapGroups", fn := fun _ => fun
  | [d] => { results := [.lit (.bool false)], args := [d] }
  | _ => none }
def OverlapGroupsWrongFalsely : Prop := overlapGroupsRow.holds Try.pinned (OpenSpec.ofChange overlapGroupsWrong)

/-- 'mapsheetslaw48.OverlapFree': WHATEVER THE INPUT: true; the input reads as it did. -/
def overlapFreeSpec : ChangeSpec := { name := "overlapFree", fn := fun _ => fun
  | [d1, d2] => { results := [.lit (.bool true)], args := [d1, d2] }
  | _ => none }
def overlapFreeRow : OpenClaim := { program := "ytoknjlodhohioaa", sum := "2364f92a264cf97a3134253bfbec899395b37d0f304f069e7812cfedce1350d2", func := "mapsheets/mapsheetslaw48.OverlapFree", spec := "overlapFree", unfollowed := true, recurses := true, apart := false }
def OverlapFreeSaid : Prop := overlapFreeRow.holds Try.pinned (OpenSpec.ofChange overlapFreeSpec)

/-- ITS FALSE NEIGHBOUR: 'it returns false'. Refute it at one input. -/
def overlapFreeWrong : ChangeSpec := { name := "overlapFree", fn := fun _ => fun
  | [d1, d2] => { results := [.lit (.bool false)], args := [d1, d2] }
  | _ => none }
def OverlapFreeWrongFalsely : Prop := overlapFreeRow.holds Try.pinned (OpenSpec.ofChange overlapFreeWrong)

/-- 'mapsheetslaw48.OverlapSteps': WHATEVER THE INPUT: true; the input reads as it did. -/
def overlapStepsSpec : ChangeSpec := { name := "overlapSteps", fn := fun _ => fun
  | [d1, d2, d3] => { results := [.lit (.bool true)], args := [d1, d2, d3] }
  | _ => none }
def overlapStepsRow : OpenClaim := { program := "ytoknjlodhohioaa", sum := "2364f92a264cf97a3134253bfbec899395b37d0f304f069e7812cfedce1350d2", func := "mapsheets/mapsheetslaw48.OverlapSteps", spec := "overlapSteps", unfollowed := true, recurses := true, apart := false }
def OverlapStepsSaid : Prop := overlapStepsRow.holds Try.pinned (OpenSpec.ofChange overlapStepsSpec)

/-- ITS FALSE NEIGHBOUR: 'it returns false'. Refute it at one input. -/
def overlapStepsWrong : ChangeSpec := { name := "overlapSteps", fn := fun _ => fun
  | [d1, d2, d3] => { results := [.lit (.bool false)], args := [d1, d2, d3] }
  | _ => none }
def OverlapStepsWrongFalsely : Prop := overlapStepsRow.holds Try.pinned (OpenSpec.ofChange overlapStepsWrong)

/- THE SECOND FORM. 'bulk': how many values and letters a reading holds, each counted each time it is reached (what is shared counts as often as it is met; a slice's spare places count too). A statement '..UptoSaid' is the law's where the arguments, and the package variables that the reading takes, are together of bulk at most 1048576: NARROWER than '..Said'. Prove '..Said' where nothing that the law and all that it calls make is longer than what came in: it says more and counts as full. Else prove '..UptoSaid'. A law counts once. -/
mutual
def uptoBulk {H : Type} : DataW H → Nat
  | .lit (.string bytes) => bytes.length + 1
  | .lit _ => 1
  | .nil => 1
  | .ptr d => uptoBulk d + 1
  | .slice elems spare => uptoBulkAll elems + uptoBulkAll spare + 1
  | .agg parts => uptoBulkAll parts + 1
  | .iface _ d => uptoBulk d + 1
  | .map entries => uptoBulkEntries entries + 1
  | .held _ => 1
def uptoBulkAll {H : Type} : List (DataW H) → Nat
  | [] => 0
  | d :: r => uptoBulk d + uptoBulkAll r
def uptoBulkEntries {H : Type} : List (Lit × DataW H) → Nat
  | [] => 0
  | x :: r => uptoBulkEntry x + uptoBulkEntries r
def uptoBulkEntry {H : Type} : Lit × DataW H → Nat
  | (.string bytes, d) => bytes.length + uptoBulk d + 1
  | (_, d) => uptoBulk d + 1
 end
def uptoSmall : (H : Type) → List (DataW H) → Bool := fun _ ds => decide (uptoBulkAll ds ≤ 1048576)
def OpenSpec.upto (s : _root_.Go.ChangeSpec) : _root_.Go.OpenSpec := { _root_.Go.OpenSpec.ofChange s with cond := some uptoSmall }

/-- 'mapsheetslaw48.OverlapHits', WHERE WHAT IT READS IS OF BULK AT MOST 1048576: true; the input reads as it did. -/
def overlapHitsUptoRow : OpenClaim := { program := "ytoknjlodhohioaa", sum := "2364f92a264cf97a3134253bfbec899395b37d0f304f069e7812cfedce1350d2", func := "mapsheets/mapsheetslaw48.OverlapHits", spec := "overlapHits", unfollowed := true, recurses := true, apart := false, narrowed := true }
def OverlapHitsUptoSaid : Prop := overlapHitsUptoRow.holds Try.pinned (OpenSpec.upto overlapHitsSpec)

/-- 'mapsheetslaw48.OverlapPairs', WHERE WHAT IT READS IS OF BULK AT MOST 1048576: true; the input reads as it did. -/
def overlapPairsUptoRow : OpenClaim := { program := "ytoknjlodhohioaa", sum := "2364f92a264cf97a3134253bfbec899395b37d0f304f069e7812cfedce1350d2", func := "mapsheets/mapsheetslaw48.OverlapPairs", spec := "overlapPairs", unfollowed := true, recurses := true, apart := false, narrowed := true }
def OverlapPairsUptoSaid : Prop := overlapPairsUptoRow.holds Try.pinned (OpenSpec.upto overlapPairsSpec)

/-- 'mapsheetslaw48.OverlapClusters', WHERE WHAT IT READS IS OF BULK AT MOST 1048576: true; the input reads as it did. -/
def overlapClustersUptoRow : OpenClaim := { program := "ytoknjlodhohioaa", sum := "2364f92a264cf97a3134253bfbec899395b37d0f304f069e7812cfedce1350d2", func := "mapsheets/mapsheetslaw48.OverlapClusters", spec := "overlapClusters", unfollowed := true, recurses := true, apart := false, narrowed := true }
def OverlapClustersUptoSaid : Prop := overlapClustersUptoRow.holds Try.pinned (OpenSpec.upto overlapClustersSpec)

/-- 'mapsheetslaw48.OverlapGroups', WHERE WHAT IT READS IS OF BULK AT MOST 1048576: true; the input reads as it did. -/
def overlapGroupsUptoRow : OpenClaim := { program := "ytoknjlodhohioaa", sum := "2364f92a264cf97a3134253bfbec899395b37d0f304f069e7812cfedce1350d2", func := "mapsheets/mapsheetslaw48.OverlapGroups", spec := "overlapGroups", unfollowed := true, recurses := true, apart := false, narrowed := true }
def OverlapGroupsUptoSaid : Prop := overlapGroupsUptoRow.holds Try.pinned (OpenSpec.upto overlapGroupsSpec)

/-- 'mapsheetslaw48.OverlapFree', WHERE WHAT IT READS IS OF BULK AT MOST 1048576: true; the input reads as it did. -/
def overlapFreeUptoRow : OpenClaim := { program := "ytoknjlodhohioaa", sum := "2364f92a264cf97a3134253bfbec899395b37d0f304f069e7812cfedce1350d2", func := "mapsheets/mapsheetslaw48.OverlapFree", spec := "overlapFree", unfollowed := true, recurses := true, apart := false, narrowed := true }
def OverlapFreeUptoSaid : Prop := overlapFreeUptoRow.holds Try.pinned (OpenSpec.upto overlapFreeSpec)

/-- 'mapsheetslaw48.OverlapSteps', WHERE WHAT IT READS IS OF BULK AT MOST 1048576: true; the input reads as it did. -/
def overlapStepsUptoRow : OpenClaim := { program := "ytoknjlodhohioaa", sum := "2364f92a264cf97a3134253bfbec899395b37d0f304f069e7812cfedce1350d2", func := "mapsheets/mapsheetslaw48.OverlapSteps", spec := "overlapSteps", unfollowed := true, recurses := true, apart := false, narrowed := true }
def OverlapStepsUptoSaid : Prop := overlapStepsUptoRow.holds Try.pinned (OpenSpec.upto overlapStepsSpec)

end Rows
end Go.Proofs.Ytoknjlodhohioaa
