/-
  No cell of these rows narrows 'for every input' (looked for: loops, veiled, ifaces, maps, wideKeys, modest, calm, conditions, laid).
  DERIVED. THE GIVEN ROWS OF THIS SEAT. 7 by the template 'for every input the law returns true; each argument reads behind the call as it read before'; 0 by the template 'total and deterministic' (their statements: YtcfhhkdjdpkjpaaTotals.lean).
  GIVEN WITH THE SEED: the statements are not yours to turn. If you find one false, say at which input.
  Laid BY PROGRAM, IN A SANDBOX (cutbox-rows.mjs): the forced cells as the released guide's own fill.sh prints them over the translation 8d79baf5896c12ac… (all of the seat's roots in one cut). By AI agents, Wed Nov 11 2026. No macro, syntax, notation, axiom, sorry.
-/
import Derived.Test.YtcfhhkdjdpkjpaaChecked
import GoSem.Claim
import GoSem.ClaimJoined
import GoSem.ClaimMapViews
import Derived.JoinedTies
import Derived.KernelRfl
namespace Go.Proofs.Ytcfhhkdjdpkjpaa
/- THE CELL 'sum', in the pinned program and in every row, IS THE sha256 OF THE DUMP (.gsa) THAT YtcfhhkdjdpkjpaaProg.lean LOADS. Nothing in Lean hashes anything: it is a label: what it is worth is what the hold of that sum in a sandbox is worth. -/
noncomputable def Try.pinned : Pinned := { name := "ytcfhhkdjdpkjpaa", sum := "8d79baf5896c12acebcbf222db6cfa6e3d0b8492002e9f74652469257c62d586", checked := Try.checked }
namespace Rows
def none {H : Type} : Left H := { results := [], args := [] }

/-- 'mapsheetslaw44.ContourLines': WHATEVER THE INPUT: true; the input reads as it did. -/
def contourLinesSpec : ChangeSpec := { name := "contourLines", fn := fun _ => fun
  | [d1, d2] => { results := [.lit (.bool true)], args := [d1, d2] }
  | _ => none }
def contourLinesRow : OpenClaim := { program := "ytcfhhkdjdpkjpaa", sum := "8d79baf5896c12acebcbf222db6cfa6e3d0b8492002e9f74652469257c62d586", func := "mapsheets/mapsheetslaw44.ContourLines", spec := "contourLines", unfollowed := true, recurses := true, apart := false }
def ContourLinesSaid : Prop := contourLinesRow.holds Try.pinned (OpenSpec.ofChange contourLinesSpec)

/-- ITS FALSE NEIGHBOUR: 'it returns false'. Refute it at one input. -/
def contourLinesWrong : ChangeSpec := { name := "contourLines", fn := fun _ => fun
  | [d1, d2] => { results := [.lit (.bool false)], args := [d1, d2] }
  | _ => none }
def ContourLinesWrongFalsely : Prop := contourLinesRow.holds Try.pinned (OpenSpec.ofChange contourLinesWrong)

/-- 'mapsheetslaw44.ContourAll': WHATEVER THE INPUT: true; the input reads as it did. -/
def contourAllSpec : ChangeSpec := { name := "contourAll", fn := fun _ => fun
  | [d1, d2] => { results := [.lit (.bool true)], args := [d1, d2] }
  | _ => none }
def contourAllRow : OpenClaim := { program := "ytcfhhkdjdpkjpaa", sum := "8d79baf5896c12acebcbf222db6cfa6e3d0b8492002e9f74652469257c62d586", func := "mapsheets/mapsheetslaw44.ContourAll", spec := "contourAll", unfollowed := true, recurses := true, apart := false }
def ContourAllSaid : Prop := contourAllRow.holds Try.pinned (OpenSpec.ofChange contourAllSpec)

/-- ITS FALSE NEIGHBOUR: 'it returns false'. Refute it at one input. -/
def contourAllWrong : ChangeSpec := { name := "contourAll", fn := fun _ => fun
  | [d1, d2] => { results := [.lit (.bool false)], args := [d1, d2] }
  | _ => none }
def ContourAllWrongFalsely : Prop := contourAllRow.holds Try.pinned (OpenSpec.ofChange contourAllWrong)

/-- 'mapsheetslaw44.ContourInside': WHATEVER THE INPUT: true; the input reads as it did. -/
def contourInsideSpec : ChangeSpec := { name := "contourInside", fn := fun _ => fun
  | [d1, d2] => { results := [.lit (.bool true)], args := [d1, d2] }
  | _ => none }
def contourInsideRow : OpenClaim := { program := "ytcfhhkdjdpkjpaa", sum := "8d79baf5896c12acebcbf222db6cfa6e3d0b8492002e9f74652469257c62d586", func := "mapsheets/mapsheetslaw44.ContourInside", spec := "contourInside", unfollowed := true, recurses := true, apart := false }
def ContourInsideSaid : Prop := contourInsideRow.holds Try.pinned (OpenSpec.ofChange contourInsideSpec)

/-- ITS FALSE NEIGHBOUR: 'it returns false'. Refute it at one input. -/
def contourInsideWrong : ChangeSpec := { name := "contourInside", fn := fun _ => fun
  | [d1, d2] => { results := [.lit (.bool false)], args := [d1, d2] }
  | _ => none }
def ContourInsideWrongFalsely : Prop := contourInsideRow.holds Try.pinned (OpenSpec.ofChange contourInsideWrong)

/-- 'mapsheetslaw44.ContourEdges': WHATEVER THE INPUT: true; the input reads as it did. -/
def contourEdgesSpec : ChangeSpec := { name := "contourEdges", fn := fun _ => fun
  | [d1, d2] => { results := [.lit (.bool true)], args := [d1, d2] }
  | _ => none }
def contourEdgesRow : OpenClaim := { program := "ytcfhhkdjdpkjpaa", sum := "8d79baf5896c12acebcbf222db6cfa6e3d0b8492002e9f74652469257c62d586", func := "mapsheets/mapsheetslaw44.ContourEdges", spec := "contourEdges", unfollowed := true, recurses := true, apart := false }
def ContourEdgesSaid : Prop := contourEdgesRow.holds Try.pinned (OpenSpec.ofChange contourEdgesSpec)

/-- ITS FALSE NEIGHBOUR: 'it returns false'. Refute it at one input. -/
def contourEdgesWrong : ChangeSpec := { name := "contourEdges", fn := fun _ => fun
  | [d1, d2] => { results := [.lit (.bool false)], args := [d1, d2] }
  | _ => none }
def ContourEdgesWrongFalsely : Prop := contourEdgesRow.holds Try.pinned (OpenSpec.ofChange contourEdgesWrong)

/-- 'mapsheetslaw44.ContourSeparates': WHATEVER THE INPUT: true; the input reads as it did. -/
def contourSeparatesSpec : ChangeSpec := { name := "contourSeparates", fn := fun _ => fun
  | [d1, d2] => { results := [.lit (.bool true)], args := [d1, d2] }
  | _ => none }
def contourSeparatesRow : OpenClaim := { program := "ytcfhhkdjdpkjpaa", sum := "8d79baf5896c12acebcbf222db6cfa6e3d0b8492002e9f74652469257c62d586", func := "mapsheets/mapsheetslaw44.ContourSeparates", spec := "contourSeparates", unfollowed := true, recurses := true, apart := false }
def ContourSeparatesSaid : Prop := contourSeparatesRow.holds Try.pinned (OpenSpec.ofChange contourSeparatesSpec)

/-- ITS FALSE NEIGHBOUR: 'it returns false'. Refute it at one input. -/
def contourSeparatesWrong : ChangeSpec := { name := "contourSeparates", fn := fun _ => fun
  | [d1, d2] => { results := [.lit (.bool false)], args := [d1, d2] }
  | _ => none }
def ContourSeparatesWrongFalsely : Prop := contourSeparatesRow.holds Try.pinned (OpenSpec.ofChange contourSeparatesWrong)

/-- 'mapsheetslaw44.ContourMoves': WHATEVER THE INPUT: true; the input reads as it did. -/
def contourMovesSpec : ChangeSpec := { name := "contourMoves", fn := fun _ => fun
  | [d1, d2, d3, d4] => { results := [.lit (.bool true)], args := [d1, d2, d3, d4] }
  | _ => none }
def contourMovesRow : OpenClaim := { program := "ytcfhhkdjdpkjpaa", sum := "8d79baf5896c12acebcbf222db6cfa6e3d0b8492002e9f74652469257c62d586", func := "mapsheets/mapsheetslaw44.ContourMoves", spec := "contourMoves", unfollowed := true, recurses := true, apart := false }
def ContourMovesSaid : Prop := contourMovesRow.holds Try.pinned (OpenSpec.ofChange contourMovesSpec)

/-- ITS FALSE NEIGHBOUR: 'it returns false'. Refute it at one input. -/
def contourMovesWrong : ChangeSpec := { name := "contourMoves", fn := fun _ => fun
  | [d1, d2, d3, d4] => { results := [.lit (.bool false)], args := [d1, d2, d3, d4] }
  | _ => none }
def ContourMovesWrongFalsely : Prop := contourMovesRow.holds Try.pinned (OpenSpec.ofChange contourMovesWrong)

/-- 'mapsheetslaw44.ContourRange': WHATEVER THE INPUT: true; the input reads as it did. -/
def contourRangeSpec : ChangeSpec := { name := "contourRange", fn := fun _ => fun
  | [d1, d2] => { results := [.lit (.bool true)], args := [d1, d2] }
  | _ => none }
def contourRangeRow : OpenClaim := { program := "ytcfhhkdjdpkjpaa", sum := "8d79baf5896c12acebcbf222db6cfa6e3d0b8492002e9f74652469257c62d586", func := "mapsheets/mapsheetslaw44.ContourRange", spec := "contourRange", unfollowed := true, recurses := true, apart := false }
def ContourRangeSaid : Prop := contourRangeRow.holds Try.pinned (OpenSpec.ofChange contourRangeSpec)

/-- ITS FALSE NEIGHBOUR: 'it returns false'. Refute it at one input. -/
def contourRangeWrong : ChangeSpec := { name := "contourRange", fn := fun _ => fun
  | [d1, d2] => { results := [.lit (.bool false)], args := [d1, d2] }
  | _ => none }
def ContourRangeWrongFalsely : Prop := contourRangeRow.holds Try.pinned (OpenSpec.ofChange contourRangeWrong)

/- THE SECOND FORM. 'bulk': how many values and letters a reading holds, each counted each time it is reached (what is shared counts as often as it is met; a slice's spare places count too). A statement '..UptoSaid' is the law's where the arguments, and the package variables that the reading takes, are together of bulk at most 1048576: NARROWER than '..Said'. Prove '..Said' where nothing that the law and all that it calls make is longer than what came in: it says more and counts as full. Else prove '..UptoSaid'. A law counts once. -/
mutual
def uptoBulk {H : Type} : DataW H → Nat
  | .lit (.string bytes) => bytes.length + 1
  | .lit _ => 1
  | .nil => 1
  | .ptr d => uptoBulk d + 1
  | .slice elems spare => uptoBulkAll elems + uptoBulkAll spare + 1
  | .agg parts => uptoBulkAll parts + 1
  | .iface _ d => uptoBulk d + 1
  | .map entries => uptoBulkEntries entries + 1
  | .held _ => 1
def uptoBulkAll {H : Type} : List (DataW H) → Nat
  | [] => 0
  | d :: r => uptoBulk d + uptoBulkAll r
def uptoBulkEntries {H : Type} : List (Lit × DataW H) → Nat
  | [] => 0
  | x :: r => uptoBulkEntry x + uptoBulkEntries r
def uptoBulkEntry {H : Type} : Lit × DataW H → Nat
  | (.string bytes, d) => bytes.length + uptoBulk d + 1
  | (_, d) => uptoBulk d + 1
 end
def uptoSmall : (H : Type) → List (DataW H) → Bool := fun _ ds => decide (uptoBulkAll ds ≤ 1048576)
def OpenSpec.upto (s : _root_.Go.ChangeSpec) : _root_.Go.OpenSpec := { _root_.Go.OpenSpec.ofChange s with cond := some uptoSmall }

/-- 'mapsheetslaw44.ContourLines', WHERE WHAT IT READS IS OF BULK AT MOST 1048576: true; the input reads as it did. -/
def contourLinesUptoRow : OpenClaim := { program := "ytcfhhkdjdpkjpaa", sum := "8d79baf5896c12acebcbf222db6cfa6e3d0b8492002e9f74652469257c62d586", func := "mapsheets/mapsheetslaw44.ContourLines", spec := "contourLines", unfollowed := true, recurses := true, apart := false, narrowed := true }
def ContourLinesUptoSaid : Prop := contourLinesUptoRow.holds Try.pinned (OpenSpec.upto contourLinesSpec)

/-- 'mapsheetslaw44.ContourAll', WHERE WHAT IT READS IS OF BULK AT MOST 1048576: true; the input reads as it did. -/
def contourAllUptoRow : OpenClaim := { program := "ytcfhhkdjdpkjpaa", sum := "8d79baf5896c12acebcbf222db6cfa6e3d0b8492002e9f74652469257c62d586", func := "mapsheets/mapsheetslaw44.ContourAll", spec := "contourAll", unfollowed := true, recurses := true, apart := false, narrowed := true }
def ContourAllUptoSaid : Prop := contourAllUptoRow.holds Try.pinned (OpenSpec.upto contourAllSpec)

/-- 'mapsheetslaw44.ContourInside', WHERE WHAT IT READS IS OF BULK AT MOST 1048576: true; the input reads as it did. -/
def contourInsideUptoRow : OpenClaim := { program := "ytcfhhkdjdpkjpaa", sum := "8d79baf5896c12acebcbf222db6cfa6e3d0b8492002e9f74652469257c62d586", func := "mapsheets/mapsheetslaw44.ContourInside", spec := "contourInside", unfollowed := true, recurses := true, apart := false, narrowed := true }
def ContourInsideUptoSaid : Prop := contourInsideUptoRow.holds Try.pinned (OpenSpec.upto contourInsideSpec)

/-- 'mapsheetslaw44.ContourEdges', WHERE WHAT IT READS IS OF BULK AT MOST 1048576: true; the input reads as it did. -/
def contourEdgesUptoRow : OpenClaim := { program := "ytcfhhkdjdpkjpaa", sum := "8d79baf5896c12acebcbf222db6cfa6e3d0b8492002e9f74652469257c62d586", func := "mapsheets/mapsheetslaw44.ContourEdges", spec := "contourEdges", unfollowed := true, recurses := true, apart := false, narrowed := true }
def ContourEdgesUptoSaid : Prop := contourEdgesUptoRow.holds Try.pinned (OpenSpec.upto contourEdgesSpec)

/-- 'mapsheetslaw44.ContourSeparates', WHERE WHAT IT READS IS OF BULK AT MOST 1048576: true; the input reads as it did. -/
def contourSeparatesUptoRow : OpenClaim := { program := "ytcfhhkdjdpkjpaa", sum := "8d79baf5896c12acebcbf222db6cfa6e3d0b8492002e9f74652469257c62d586", func := "mapsheets/mapsheetslaw44.ContourSeparates", spec := "contourSeparates", unfollowed := true, recurses := true, apart := false, narrowed := true }
def ContourSeparatesUptoSaid : Prop := contourSeparatesUptoRow.holds Try.pinned (OpenSpec.upto contourSeparatesSpec)

/-- 'mapsheetslaw44.ContourMoves', WHERE WHAT IT READS IS OF BULK AT MOST 1048576: true; the input reads as it did. -/
def contourMovesUptoRow : OpenClaim := { program := "ytcfhhkdjdpkjpaa", sum := "8d79baf5896c12acebcbf222db6cfa6e3d0b8492002e9f74652469257c62d586", func := "mapsheets/mapsheetslaw44.ContourMoves", spec := "contourMoves", unfollowed := true, recurses := true, apart := false, narrowed := true }
def ContourMovesUptoSaid : Prop := contourMovesUptoRow.holds Try.pinned (OpenSpec.upto contourMovesSpec)

/-- 'mapsheetslaw44.ContourRange', WHERE WHAT IT READS IS OF BULK AT MOST 1048576: true; the input reads as it did. -/
def contourRangeUptoRow : OpenClaim := { program := "ytcfhhkdjdpkjpaa", sum := "8d79baf5896c12acebcbf222db6cfa6e3d0b8492002e9f74652469257c62d586", func := "mapsheets/mapsheetslaw44.ContourRange", spec := "contourRange", unfollowed := true, recurses := true, apart := false, narrowed := true }
def ContourRangeUptoSaid : Prop := contourRangeUptoRow.holds Try.pinned (OpenSpec.upto contourRangeSpec)

end Rows
end Go.Proofs.Ytcfhhkdjdpkjpaa
