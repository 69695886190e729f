/-
  No cell of these rows narrows 'for every input' (looked for: loops, veiled, ifaces, maps, wideKeys, modest, calm, conditions, laid).
  DERIVED. THE GIVEN ROWS OF THIS SEAT. 8 by the template 'for every input the law returns true; each argument reads behind the call as it read before'; 0 by the template 'total and deterministic' (their statements: YtaaejdhdkipdlaaTotals.lean).
  GIVEN WITH THE SEED: the statements are not yours to turn. If you find one false, say at which input.
  Laid BY PROGRAM, IN A SANDBOX (cutbox-rows.mjs): the forced cells as the released guide's own fill.sh prints them over the translation 43cc2bb1130347c7… (all of the seat's roots in one cut). By AI agents, Wed Nov 11 2026. No macro, syntax, notation, axiom, sorry.
-/
import Derived.Test.YtaaejdhdkipdlaaChecked
import GoSem.Claim
import GoSem.ClaimJoined
import GoSem.ClaimMapViews
import Derived.JoinedTies
import Derived.KernelRfl
namespace Go.Proofs.Ytaaejdhdkipdlaa
/- THE CELL 'sum', in the pinned program and in every row, IS THE sha256 OF THE DUMP (.gsa) THAT YtaaejdhdkipdlaaProg.lean LOADS. Nothing in Lean hashes anything: it is a label: what it is worth is what the hold of that sum in a sandbox is worth. -/
noncomputable def Try.pinned : Pinned := { name := "ytaaejdhdkipdlaa", sum := "43cc2bb1130347c7ceee5b7ecb8c0e08506f1da90bf54976456537bbdcf99505", checked := Try.checked }
namespace Rows
def none {H : Type} : Left H := { results := [], args := [] }

/-- 'mapsheetslaw49.PlaceCompares': WHATEVER THE INPUT: true; the input reads as it did. -/
def placeComparesSpec : ChangeSpec := { name := "placeCompares", fn := fun _ => fun
  | [d1, d2, d3, d4] => { results := [.lit (.bool true)], args := [d1, d2, d3, d4] }
  | _ => none }
def placeComparesRow : OpenClaim := { program := "ytaaejdhdkipdlaa", sum := "43cc2bb1130347c7ceee5b7ecb8c0e08506f1da90bf54976456537bbdcf99505", func := "mapsheets/mapsheetslaw49.PlaceCompares", spec := "placeCompares", unfollowed := true, recurses := true, apart := false }
def PlaceComparesSaid : Prop := placeComparesRow.holds Try.pinned (OpenSpec.ofChange placeComparesSpec)

/-- ITS FALSE NEIGHBOUR: 'it returns false'. Refute it at one input. -/
def placeComparesWrong : ChangeSpec := { name := "placeCompares", fn := fun _ => fun
  | [d1, d2, d3, d4] => { results := [.lit (.bool false)], args := [d1, d2, d3, d4] }
  | _ => none }
def PlaceComparesWrongFalsely : Prop := placeComparesRow.holds Try.pinned (OpenSpec.ofChange placeComparesWrong)

/-- 'mapsheetslaw49.PlaceGreedy': WHATEVER THE INPUT: true; the input reads as it did. -/
def placeGreedySpec : ChangeSpec := { name := "placeGreedy", fn := fun _ => fun
  | [d1, d2] => { results := [.lit (.bool true)], args := [d1, d2] }
  | _ => none }
def placeGreedyRow : OpenClaim := { program := "ytaaejdhdkipdlaa", sum := "43cc2bb1130347c7ceee5b7ecb8c0e08506f1da90bf54976456537bbdcf99505", func := "mapsheets/mapsheetslaw49.PlaceGreedy", spec := "placeGreedy", unfollowed := true, recurses := true, apart := false }
def PlaceGreedySaid : Prop := placeGreedyRow.holds Try.pinned (OpenSpec.ofChange placeGreedySpec)

/-- ITS FALSE NEIGHBOUR: 'it returns false'. Refute it at one input. -/
def placeGreedyWrong : ChangeSpec := { name := "placeGreedy", fn := fun _ => fun
  | [d1, d2] => { results := [.lit (.bool false)], args := [d1, d2] }
  | _ => none }
def PlaceGreedyWrongFalsely : Prop := placeGreedyRow.holds Try.pinned (OpenSpec.ofChange placeGreedyWrong)

/-- 'mapsheetslaw49.PlaceExact': WHATEVER THE INPUT: true; the input reads as it did. -/
def placeExactSpec : ChangeSpec := { name := "placeExact", fn := fun _ => fun
  | [d1, d2, d3] => { results := [.lit (.bool true)], args := [d1, d2, d3] }
  | _ => none }
def placeExactRow : OpenClaim := { program := "ytaaejdhdkipdlaa", sum := "43cc2bb1130347c7ceee5b7ecb8c0e08506f1da90bf54976456537bbdcf99505", func := "mapsheets/mapsheetslaw49.PlaceExact", spec := "placeExact", unfollowed := true, recurses := true, apart := false }
def PlaceExactSaid : Prop := placeExactRow.holds Try.pinned (OpenSpec.ofChange placeExactSpec)

/-- ITS FALSE NEIGHBOUR: 'it returns false'. Refute it at one input. -/
def placeExactWrong : ChangeSpec := { name := "placeExact", fn := fun _ => fun
  | [d1, d2, d3] => { results := [.lit (.bool false)], args := [d1, d2, d3] }
  | _ => none }
def PlaceExactWrongFalsely : Prop := placeExactRow.holds Try.pinned (OpenSpec.ofChange placeExactWrong)

/-- 'mapsheetslaw49.PlaceClusters': WHATEVER THE INPUT: true; the input reads as it did. -/
def placeClustersSpec : ChangeSpec := { name := "placeClusters", fn := fun _ => fun
  | [d1, d2, d3] => { results := [.lit (.bool true)], args := [d1, d2, d3] }
  | _ => none }
def placeClustersRow : OpenClaim := { program := "ytaaejdhdkipdlaa", sum := "43cc2bb1130347c7ceee5b7ecb8c0e08506f1da90bf54976456537bbdcf99505", func := "mapsheets/mapsheetslaw49.PlaceClusters", spec := "placeClusters", unfollowed := true, recurses := true, apart := false }
def PlaceClustersSaid : Prop := placeClustersRow.holds Try.pinned (OpenSpec.ofChange placeClustersSpec)

/-- ITS FALSE NEIGHBOUR: 'it returns false'. Refute it at one input. -/
def placeClustersWrong : ChangeSpec := { name := "placeClusters", fn := fun _ => fun
  | [d1, d2, d3] => { results := [.lit (.bool false)], args := [d1, d2, d3] }
  | _ => none }
def PlaceClustersWrongFalsely : Prop := placeClustersRow.holds Try.pinned (OpenSpec.ofChange placeClustersWrong)

/-- 'mapsheetslaw49.PlaceBest': WHATEVER THE INPUT: true; the input reads as it did. -/
def placeBestSpec : ChangeSpec := { name := "placeBest", fn := fun _ => fun
  | [d1, d2, d3, d4] => { results := [.lit (.bool true)], args := [d1, d2, d3, d4] }
  | _ => none }
def placeBestRow : OpenClaim := { program := "ytaaejdhdkipdlaa", sum := "43cc2bb1130347c7ceee5b7ecb8c0e08506f1da90bf54976456537bbdcf99505", func := "mapsheets/mapsheetslaw49.PlaceBest", spec := "placeBest", unfollowed := true, recurses := true, apart := false }
def PlaceBestSaid : Prop := placeBestRow.holds Try.pinned (OpenSpec.ofChange placeBestSpec)

/-- ITS FALSE NEIGHBOUR: 'it returns false'. Refute it at one input. -/
def placeBestWrong : ChangeSpec := { name := "placeBest", fn := fun _ => fun
  | [d1, d2, d3, d4] => { results := [.lit (.bool false)], args := [d1, d2, d3, d4] }
  | _ => none }
def PlaceBestWrongFalsely : Prop := placeBestRow.holds Try.pinned (OpenSpec.ofChange placeBestWrong)

/-- 'mapsheetslaw49.PlaceWhole': WHATEVER THE INPUT: true; the input reads as it did. -/
def placeWholeSpec : ChangeSpec := { name := "placeWhole", fn := fun _ => fun
  | [d1, d2] => { results := [.lit (.bool true)], args := [d1, d2] }
  | _ => none }
def placeWholeRow : OpenClaim := { program := "ytaaejdhdkipdlaa", sum := "43cc2bb1130347c7ceee5b7ecb8c0e08506f1da90bf54976456537bbdcf99505", func := "mapsheets/mapsheetslaw49.PlaceWhole", spec := "placeWhole", unfollowed := true, recurses := true, apart := false }
def PlaceWholeSaid : Prop := placeWholeRow.holds Try.pinned (OpenSpec.ofChange placeWholeSpec)

/-- ITS FALSE NEIGHBOUR: 'it returns false'. Refute it at one input. -/
def placeWholeWrong : ChangeSpec := { name := "placeWhole", fn := fun _ => fun
  | [d1, d2] => { results := [.lit (.bool false)], args := [d1, d2] }
  | _ => none }
def PlaceWholeWrongFalsely : Prop := placeWholeRow.holds Try.pinned (OpenSpec.ofChange placeWholeWrong)

/-- 'mapsheetslaw49.PlaceSteps': WHATEVER THE INPUT: true; the input reads as it did. -/
def placeStepsSpec : ChangeSpec := { name := "placeSteps", fn := fun _ => fun
  | [d1, d2, d3, d4, d5] => { results := [.lit (.bool true)], args := [d1, d2, d3, d4, d5] }
  | _ => none }
def placeStepsRow : OpenClaim := { program := "ytaaejdhdkipdlaa", sum := "43cc2bb1130347c7ceee5b7ecb8c0e08506f1da90bf54976456537bbdcf99505", func := "mapsheets/mapsheetslaw49.PlaceSteps", spec := "placeSteps", unfollowed := true, recurses := true, apart := false }
def PlaceStepsSaid : Prop := placeStepsRow.holds Try.pinned (OpenSpec.ofChange placeStepsSpec)

/-- ITS FALSE NEIGHBOUR: 'it returns false'. Refute it at one input. -/
def placeStepsWrong : ChangeSpec := { name := "placeSteps", fn := fun _ => fun
  | [d1, d2, d3, d4, d5] => { results := [.lit (.bool false)], args := [d1, d2, d3, d4, d5] }
  | _ => none }
def PlaceStepsWrongFalsely : Prop := placeStepsRow.holds Try.pinned (OpenSpec.ofChange placeStepsWrong)

/-- 'mapsheetslaw49.PlaceApart': WHATEVER THE INPUT: true; the input reads as it did. -/
def placeApartSpec : ChangeSpec := { name := "placeApart", fn := fun _ => fun
  | [d1, d2, d3, d4] => { results := [.lit (.bool true)], args := [d1, d2, d3, d4] }
  | _ => none }
def placeApartRow : OpenClaim := { program := "ytaaejdhdkipdlaa", sum := "43cc2bb1130347c7ceee5b7ecb8c0e08506f1da90bf54976456537bbdcf99505", func := "mapsheets/mapsheetslaw49.PlaceApart", spec := "placeApart", unfollowed := true, recurses := true, apart := false }
def PlaceApartSaid : Prop := placeApartRow.holds Try.pinned (OpenSpec.ofChange placeApartSpec)

/-- ITS FALSE NEIGHBOUR: 'it returns false'. Refute it at one input. -/
def placeApartWrong : ChangeSpec := { name := "placeApart", fn := fun _ => fun
  | [d1, d2, d3, d4] => { results := [.lit (.bool false)], args := [d1, d2, d3, d4] }
  | _ => none }
def PlaceApartWrongFalsely : Prop := placeApartRow.holds Try.pinned (OpenSpec.ofChange placeApartWrong)

/- THE SECOND FORM. 'bulk': how many values and letters a reading holds, each counted each time it is reached (what is shared counts as often as it is met; a slice's spare places count too). A statement '..UptoSaid' is the law's where the arguments, and the package variables that the reading takes, are together of bulk at most 1048576: NARROWER than '..Said'. Prove '..Said' where nothing that the law and all that it calls make is longer than what came in: it says more and counts as full. Else prove '..UptoSaid'. A law counts once. -/
mutual
def uptoBulk {H : Type} : DataW H → Nat
  | .lit (.string bytes) => bytes.length + 1
  | .lit _ => 1
  | .nil => 1
  | .ptr d => uptoBulk d + 1
  | .slice elems spare => uptoBulkAll elems + uptoBulkAll spare + 1
  | .agg parts => uptoBulkAll parts + 1
  | .iface _ d => uptoBulk d + 1
  | .map entries => uptoBulkEntries entries + 1
  | .held _ => 1
def uptoBulkAll {H : Type} : List (DataW H) → Nat
  | [] => 0
  | d :: r => uptoBulk d + uptoBulkAll r
def uptoBulkEntries {H : Type} : List (Lit × DataW H) → Nat
  | [] => 0
  | x :: r => uptoBulkEntry x + uptoBulkEntries r
def uptoBulkEntry {H : Type} : Lit × DataW H → Nat
  | (.string bytes, d) => bytes.length + uptoBulk d + 1
  | (_, d) => uptoBulk d + 1
 end
def uptoSmall : (H : Type) → List (DataW H) → Bool := fun _ ds => decide (uptoBulkAll ds ≤ 1048576)
def OpenSpec.upto (s : _root_.Go.ChangeSpec) : _root_.Go.OpenSpec := { _root_.Go.OpenSpec.ofChange s with cond := some uptoSmall }

/-- 'mapsheetslaw49.PlaceCompares', WHERE WHAT IT READS IS OF BULK AT MOST 1048576: true; the input reads as it did. -/
def placeComparesUptoRow : OpenClaim := { program := "ytaaejdhdkipdlaa", sum := "43cc2bb1130347c7ceee5b7ecb8c0e08506f1da90bf54976456537bbdcf99505", func := "mapsheets/mapsheetslaw49.PlaceCompares", spec := "placeCompares", unfollowed := true, recurses := true, apart := false, narrowed := true }
def PlaceComparesUptoSaid : Prop := placeComparesUptoRow.holds Try.pinned (OpenSpec.upto placeComparesSpec)

/-- 'mapsheetslaw49.PlaceGreedy', WHERE WHAT IT READS IS OF BULK AT MOST 1048576: true; the input reads as it did. -/
def placeGreedyUptoRow : OpenClaim := { program := "ytaaejdhdkipdlaa", sum := "43cc2bb1130347c7ceee5b7ecb8c0e08506f1da90bf54976456537bbdcf99505", func := "mapsheets/mapsheetslaw49.PlaceGreedy", spec := "placeGreedy", unfollowed := true, recurses := true, apart := false, narrowed := true }
def PlaceGreedyUptoSaid : Prop := placeGreedyUptoRow.holds Try.pinned (OpenSpec.upto placeGreedySpec)

/-- 'mapsheetslaw49.PlaceExact', WHERE WHAT IT READS IS OF BULK AT MOST 1048576: true; the input reads as it did. -/
def placeExactUptoRow : OpenClaim := { program := "ytaaejdhdkipdlaa", sum := "43cc2bb1130347c7ceee5b7ecb8c0e08506f1da90bf54976456537bbdcf99505", func := "mapsheets/mapsheetslaw49.PlaceExact", spec := "placeExact", unfollowed := true, recurses := true, apart := false, narrowed := true }
def PlaceExactUptoSaid : Prop := placeExactUptoRow.holds Try.pinned (OpenSpec.upto placeExactSpec)

/-- 'mapsheetslaw49.PlaceClusters', WHERE WHAT IT READS IS OF BULK AT MOST 1048576: true; the input reads as it did. -/
def placeClustersUptoRow : OpenClaim := { program := "ytaaejdhdkipdlaa", sum := "43cc2bb1130347c7ceee5b7ecb8c0e08506f1da90bf54976456537bbdcf99505", func := "mapsheets/mapsheetslaw49.PlaceClusters", spec := "placeClusters", unfollowed := true, recurses := true, apart := false, narrowed := true }
def PlaceClustersUptoSaid : Prop := placeClustersUptoRow.holds Try.pinned (OpenSpec.upto placeClustersSpec)

/-- 'mapsheetslaw49.PlaceBest', WHERE WHAT IT READS IS OF BULK AT MOST 1048576: true; the input reads as it did. -/
def placeBestUptoRow : OpenClaim := { program := "ytaaejdhdkipdlaa", sum := "43cc2bb1130347c7ceee5b7ecb8c0e08506f1da90bf54976456537bbdcf99505", func := "mapsheets/mapsheetslaw49.PlaceBest", spec := "placeBest", unfollowed := true, recurses := true, apart := false, narrowed := true }
def PlaceBestUptoSaid : Prop := placeBestUptoRow.holds Try.pinned (OpenSpec.upto placeBestSpec)

/-- 'mapsheetslaw49.PlaceWhole', WHERE WHAT IT READS IS OF BULK AT MOST 1048576: true; the input reads as it did. -/
def placeWholeUptoRow : OpenClaim := { program := "ytaaejdhdkipdlaa", sum := "43cc2bb1130347c7ceee5b7ecb8c0e08506f1da90bf54976456537bbdcf99505", func := "mapsheets/mapsheetslaw49.PlaceWhole", spec := "placeWhole", unfollowed := true, recurses := true, apart := false, narrowed := true }
def PlaceWholeUptoSaid : Prop := placeWholeUptoRow.holds Try.pinned (OpenSpec.upto placeWholeSpec)

/-- 'mapsheetslaw49.PlaceSteps', WHERE WHAT IT READS IS OF BULK AT MOST 1048576: true; the input reads as it did. -/
def placeStepsUptoRow : OpenClaim := { program := "ytaaejdhdkipdlaa", sum := "43cc2bb1130347c7ceee5b7ecb8c0e08506f1da90bf54976456537bbdcf99505", func := "mapsheets/mapsheetslaw49.PlaceSteps", spec := "placeSteps", unfollowed := true, recurses := true, apart := false, narrowed := true }
def PlaceStepsUptoSaid : Prop := placeStepsUptoRow.holds Try.pinned (OpenSpec.upto placeStepsSpec)

/-- 'mapsheetslaw49.PlaceApart', WHERE WHAT IT READS IS OF BULK AT MOST 1048576: true; the input reads as it did. -/
def placeApartUptoRow : OpenClaim := { program := "ytaaejdhdkipdlaa", sum := "43cc2bb1130347c7ceee5b7ecb8c0e08506f1da90bf54976456537bbdcf99505", func := "mapsheets/mapsheetslaw49.PlaceApart", spec := "placeApart", unfollowed := true, recurses := true, apart := false, narrowed := true }
def PlaceApartUptoSaid : Prop := placeApartUptoRow.holds Try.pinned (OpenSpec.upto placeApartSpec)

end Rows
end Go.Proofs.Ytaaejdhdkipdlaa
