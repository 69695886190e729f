/-
  No cell of these rows narrows 'for every input' (looked for: loops, veiled, ifaces, maps, wideKeys, modest, calm, conditions, laid).
  DERIVED. THE GIVEN ROWS OF THIS SEAT. 7 by the template 'for every input the law returns true; each argument reads behind the call as it read before'; 0 by the template 'total and deterministic' (their statements: YtafaojmkbbhjmaaTotals.lean).
  GIVEN WITH THE SEED: the statements are not yours to turn. If you find one false, say at which input.
  Laid BY PROGRAM, IN A SANDBOX (cutbox-rows.mjs): the forced cells as the released guide's own fill.sh prints them over the translation 982d89f8edc587df… (all of the seat's roots in one cut). By AI agents, Wed Nov 11 2026. No macro, syntax, notation, axiom, sorry.
-/
import Derived.Test.YtafaojmkbbhjmaaChecked
import GoSem.Claim
import GoSem.ClaimJoined
import GoSem.ClaimMapViews
import Derived.JoinedTies
import Derived.KernelRfl
namespace Go.Proofs.Ytafaojmkbbhjmaa
/- THE CELL 'sum', in the pinned program and in every row, IS THE sha256 OF THE DUMP (.gsa) THAT YtafaojmkbbhjmaaProg.lean LOADS. Nothing in Lean hashes anything: it is a label: what it is worth is what the hold of that sum in a sandbox is worth. -/
noncomputable def Try.pinned : Pinned := { name := "ytafaojmkbbhjmaa", sum := "982d89f8edc587df8e994e8d5421dfd54ee9a98b23d7f676ae2b9f1180f6004c", checked := Try.checked }
namespace Rows
def none {H : Type} : Left H := { results := [], args := [] }

/-- 'mapsheetslaw10.RingChecks': WHATEVER THE INPUT: true; the input reads as it did. -/
def ringChecksSpec : ChangeSpec := { name := "ringChecks", fn := fun _ => fun
  | [d] => { results := [.lit (.bool true)], args := [d] }
  | _ => none }
def ringChecksRow : OpenClaim := { program := "ytafaojmkbbhjmaa", sum := "982d89f8edc587df8e994e8d5421dfd54ee9a98b23d7f676ae2b9f1180f6004c", func := "mapsheets/mapsheetslaw10.RingChecks", spec := "ringChecks", unfollowed := true, recurses := true, apart := false }
def RingChecksSaid : Prop := ringChecksRow.holds Try.pinned (OpenSpec.ofChange ringChecksSpec)

/-- ITS FALSE NEIGHBOUR: 'it returns false'. Refute it at one input. -/
def ringChecksWrong : ChangeSpec := { name := "ringChecks", fn := fun _ => fun
  | [d] => { results := [.lit (.bool false)], args := [d] }
  | _ => none }
def RingChecksWrongFalsely : Prop := ringChecksRow.holds Try.pinned (OpenSpec.ofChange ringChecksWrong)

/-- 'mapsheetslaw10.RingMeasures': WHATEVER THE INPUT: true; the input reads as it did. -/
def ringMeasuresSpec : ChangeSpec := { name := "ringMeasures", fn := fun _ => fun
  | [d] => { results := [.lit (.bool true)], args := [d] }
  | _ => none }
def ringMeasuresRow : OpenClaim := { program := "ytafaojmkbbhjmaa", sum := "982d89f8edc587df8e994e8d5421dfd54ee9a98b23d7f676ae2b9f1180f6004c", func := "mapsheets/mapsheetslaw10.RingMeasures", spec := "ringMeasures", unfollowed := true, recurses := true, apart := false }
def RingMeasuresSaid : Prop := ringMeasuresRow.holds Try.pinned (OpenSpec.ofChange ringMeasuresSpec)

/-- ITS FALSE NEIGHBOUR: 'it returns false'. Refute it at one input. -/
def ringMeasuresWrong : ChangeSpec := { name := "ringMeasures", fn := fun _ => fun
  | [d] => { results := [.lit (.bool false)], args := [d] }
  | _ => none }
def RingMeasuresWrongFalsely : Prop := ringMeasuresRow.holds Try.pinned (OpenSpec.ofChange ringMeasuresWrong)

/-- 'mapsheetslaw10.RingMiddles': WHATEVER THE INPUT: true; the input reads as it did. -/
def ringMiddlesSpec : ChangeSpec := { name := "ringMiddles", fn := fun _ => fun
  | [d] => { results := [.lit (.bool true)], args := [d] }
  | _ => none }
def ringMiddlesRow : OpenClaim := { program := "ytafaojmkbbhjmaa", sum := "982d89f8edc587df8e994e8d5421dfd54ee9a98b23d7f676ae2b9f1180f6004c", func := "mapsheets/mapsheetslaw10.RingMiddles", spec := "ringMiddles", unfollowed := true, recurses := true, apart := false }
def RingMiddlesSaid : Prop := ringMiddlesRow.holds Try.pinned (OpenSpec.ofChange ringMiddlesSpec)

/-- ITS FALSE NEIGHBOUR: 'it returns false'. Refute it at one input. -/
def ringMiddlesWrong : ChangeSpec := { name := "ringMiddles", fn := fun _ => fun
  | [d] => { results := [.lit (.bool false)], args := [d] }
  | _ => none }
def RingMiddlesWrongFalsely : Prop := ringMiddlesRow.holds Try.pinned (OpenSpec.ofChange ringMiddlesWrong)

/-- 'mapsheetslaw10.RingInside': WHATEVER THE INPUT: true; the input reads as it did. -/
def ringInsideSpec : ChangeSpec := { name := "ringInside", fn := fun _ => fun
  | [d] => { results := [.lit (.bool true)], args := [d] }
  | _ => none }
def ringInsideRow : OpenClaim := { program := "ytafaojmkbbhjmaa", sum := "982d89f8edc587df8e994e8d5421dfd54ee9a98b23d7f676ae2b9f1180f6004c", func := "mapsheets/mapsheetslaw10.RingInside", spec := "ringInside", unfollowed := true, recurses := true, apart := false }
def RingInsideSaid : Prop := ringInsideRow.holds Try.pinned (OpenSpec.ofChange ringInsideSpec)

/-- ITS FALSE NEIGHBOUR: 'it returns false'. Refute it at one input. -/
def ringInsideWrong : ChangeSpec := { name := "ringInside", fn := fun _ => fun
  | [d] => { results := [.lit (.bool false)], args := [d] }
  | _ => none }
def RingInsideWrongFalsely : Prop := ringInsideRow.holds Try.pinned (OpenSpec.ofChange ringInsideWrong)

/-- 'mapsheetslaw10.RingTurns': WHATEVER THE INPUT: true; the input reads as it did. -/
def ringTurnsSpec : ChangeSpec := { name := "ringTurns", fn := fun _ => fun
  | [d1, d2, d3] => { results := [.lit (.bool true)], args := [d1, d2, d3] }
  | _ => none }
def ringTurnsRow : OpenClaim := { program := "ytafaojmkbbhjmaa", sum := "982d89f8edc587df8e994e8d5421dfd54ee9a98b23d7f676ae2b9f1180f6004c", func := "mapsheets/mapsheetslaw10.RingTurns", spec := "ringTurns", unfollowed := true, recurses := true, apart := false }
def RingTurnsSaid : Prop := ringTurnsRow.holds Try.pinned (OpenSpec.ofChange ringTurnsSpec)

/-- ITS FALSE NEIGHBOUR: 'it returns false'. Refute it at one input. -/
def ringTurnsWrong : ChangeSpec := { name := "ringTurns", fn := fun _ => fun
  | [d1, d2, d3] => { results := [.lit (.bool false)], args := [d1, d2, d3] }
  | _ => none }
def RingTurnsWrongFalsely : Prop := ringTurnsRow.holds Try.pinned (OpenSpec.ofChange ringTurnsWrong)

/-- 'mapsheetslaw10.RingTriangles': WHATEVER THE INPUT: true; the input reads as it did. -/
def ringTrianglesSpec : ChangeSpec := { name := "ringTriangles", fn := fun _ => fun
  | [d1, d2, d3, d4] => { results := [.lit (.bool true)], args := [d1, d2, d3, d4] }
  | _ => none }
def ringTrianglesRow : OpenClaim := { program := "ytafaojmkbbhjmaa", sum := "982d89f8edc587df8e994e8d5421dfd54ee9a98b23d7f676ae2b9f1180f6004c", func := "mapsheets/mapsheetslaw10.RingTriangles", spec := "ringTriangles", unfollowed := true, recurses := true, apart := false }
def RingTrianglesSaid : Prop := ringTrianglesRow.holds Try.pinned (OpenSpec.ofChange ringTrianglesSpec)

/-- ITS FALSE NEIGHBOUR: 'it returns false'. Refute it at one input. -/
def ringTrianglesWrong : ChangeSpec := { name := "ringTriangles", fn := fun _ => fun
  | [d1, d2, d3, d4] => { results := [.lit (.bool false)], args := [d1, d2, d3, d4] }
  | _ => none }
def RingTrianglesWrongFalsely : Prop := ringTrianglesRow.holds Try.pinned (OpenSpec.ofChange ringTrianglesWrong)

/-- 'mapsheetslaw10.RingLocates': WHATEVER THE INPUT: true; the input reads as it did. -/
def ringLocatesSpec : ChangeSpec := { name := "ringLocates", fn := fun _ => fun
  | [d1, d2] => { results := [.lit (.bool true)], args := [d1, d2] }
  | _ => none }
def ringLocatesRow : OpenClaim := { program := "ytafaojmkbbhjmaa", sum := "982d89f8edc587df8e994e8d5421dfd54ee9a98b23d7f676ae2b9f1180f6004c", func := "mapsheets/mapsheetslaw10.RingLocates", spec := "ringLocates", unfollowed := true, recurses := true, apart := false }
def RingLocatesSaid : Prop := ringLocatesRow.holds Try.pinned (OpenSpec.ofChange ringLocatesSpec)

/-- ITS FALSE NEIGHBOUR: 'it returns false'. Refute it at one input. -/
def ringLocatesWrong : ChangeSpec := { name := "ringLocates", fn := fun _ => fun
  | [d1, d2] => { results := [.lit (.bool false)], args := [d1, d2] }
  | _ => none }
def RingLocatesWrongFalsely : Prop := ringLocatesRow.holds Try.pinned (OpenSpec.ofChange ringLocatesWrong)

/- THE SECOND FORM. 'bulk': how many values and letters a reading holds, each counted each time it is reached (what is shared counts as often as it is met; a slice's spare places count too). A statement '..UptoSaid' is the law's where the arguments, and the package variables that the reading takes, are together of bulk at most 1048576: NARROWER than '..Said'. Prove '..Said' where nothing that the law and all that it calls make is longer than what came in: it says more and counts as full. Else prove '..UptoSaid'. A law counts once. -/
mutual
def uptoBulk {H : Type} : DataW H → Nat
  | .lit (.string bytes) => bytes.length + 1
  | .lit _ => 1
  | .nil => 1
  | .ptr d => uptoBulk d + 1
  | .slice elems spare => uptoBulkAll elems + uptoBulkAll spare + 1
  | .agg parts => uptoBulkAll parts + 1
  | .iface _ d => uptoBulk d + 1
  | .map entries => uptoBulkEntries entries + 1
  | .held _ => 1
def uptoBulkAll {H : Type} : List (DataW H) → Nat
  | [] => 0
  | d :: r => uptoBulk d + uptoBulkAll r
def uptoBulkEntries {H : Type} : List (Lit × DataW H) → Nat
  | [] => 0
  | x :: r => uptoBulkEntry x + uptoBulkEntries r
def uptoBulkEntry {H : Type} : Lit × DataW H → Nat
  | (.string bytes, d) => bytes.length + uptoBulk d + 1
  | (_, d) => uptoBulk d + 1
 end
def uptoSmall : (H : Type) → List (DataW H) → Bool := fun _ ds => decide (uptoBulkAll ds ≤ 1048576)
def OpenSpec.upto (s : _root_.Go.ChangeSpec) : _root_.Go.OpenSpec := { _root_.Go.OpenSpec.ofChange s with cond := some uptoSmall }

/-- 'mapsheetslaw10.RingChecks', WHERE WHAT IT READS IS OF BULK AT MOST 1048576: true; the input reads as it did. -/
def ringChecksUptoRow : OpenClaim := { program := "ytafaojmkbbhjmaa", sum := "982d89f8edc587df8e994e8d5421dfd54ee9a98b23d7f676ae2b9f1180f6004c", func := "mapsheets/mapsheetslaw10.RingChecks", spec := "ringChecks", unfollowed := true, recurses := true, apart := false, narrowed := true }
def RingChecksUptoSaid : Prop := ringChecksUptoRow.holds Try.pinned (OpenSpec.upto ringChecksSpec)

/-- 'mapsheetslaw10.RingMeasures', WHERE WHAT IT READS IS OF BULK AT MOST 1048576: true; the input reads as it did. -/
def ringMeasuresUptoRow : OpenClaim := { program := "ytafaojmkbbhjmaa", sum := "982d89f8edc587df8e994e8d5421dfd54ee9a98b23d7f676ae2b9f1180f6004c", func := "mapsheets/mapsheetslaw10.RingMeasures", spec := "ringMeasures", unfollowed := true, recurses := true, apart := false, narrowed := true }
def RingMeasuresUptoSaid : Prop := ringMeasuresUptoRow.holds Try.pinned (OpenSpec.upto ringMeasuresSpec)

/-- 'mapsheetslaw10.RingMiddles', WHERE WHAT IT READS IS OF BULK AT MOST 1048576: true; the input reads as it did. -/
def ringMiddlesUptoRow : OpenClaim := { program := "ytafaojmkbbhjmaa", sum := "982d89f8edc587df8e994e8d5421dfd54ee9a98b23d7f676ae2b9f1180f6004c", func := "mapsheets/mapsheetslaw10.RingMiddles", spec := "ringMiddles", unfollowed := true, recurses := true, apart := false, narrowed := true }
def RingMiddlesUptoSaid : Prop := ringMiddlesUptoRow.holds Try.pinned (OpenSpec.upto ringMiddlesSpec)

/-- 'mapsheetslaw10.RingInside', WHERE WHAT IT READS IS OF BULK AT MOST 1048576: true; the input reads as it did. -/
def ringInsideUptoRow : OpenClaim := { program := "ytafaojmkbbhjmaa", sum := "982d89f8edc587df8e994e8d5421dfd54ee9a98b23d7f676ae2b9f1180f6004c", func := "mapsheets/mapsheetslaw10.RingInside", spec := "ringInside", unfollowed := true, recurses := true, apart := false, narrowed := true }
def RingInsideUptoSaid : Prop := ringInsideUptoRow.holds Try.pinned (OpenSpec.upto ringInsideSpec)

/-- 'mapsheetslaw10.RingTurns', WHERE WHAT IT READS IS OF BULK AT MOST 1048576: true; the input reads as it did. -/
def ringTurnsUptoRow : OpenClaim := { program := "ytafaojmkbbhjmaa", sum := "982d89f8edc587df8e994e8d5421dfd54ee9a98b23d7f676ae2b9f1180f6004c", func := "mapsheets/mapsheetslaw10.RingTurns", spec := "ringTurns", unfollowed := true, recurses := true, apart := false, narrowed := true }
def RingTurnsUptoSaid : Prop := ringTurnsUptoRow.holds Try.pinned (OpenSpec.upto ringTurnsSpec)

/-- 'mapsheetslaw10.RingTriangles', WHERE WHAT IT READS IS OF BULK AT MOST 1048576: true; the input reads as it did. -/
def ringTrianglesUptoRow : OpenClaim := { program := "ytafaojmkbbhjmaa", sum := "982d89f8edc587df8e994e8d5421dfd54ee9a98b23d7f676ae2b9f1180f6004c", func := "mapsheets/mapsheetslaw10.RingTriangles", spec := "ringTriangles", unfollowed := true, recurses := true, apart := false, narrowed := true }
def RingTrianglesUptoSaid : Prop := ringTrianglesUptoRow.holds Try.pinned (OpenSpec.upto ringTrianglesSpec)

/-- 'mapsheetslaw10.RingLocates', WHERE WHAT IT READS IS OF BULK AT MOST 1048576: true; the input reads as it did. -/
def ringLocatesUptoRow : OpenClaim := { program := "ytafaojmkbbhjmaa", sum := "982d89f8edc587df8e994e8d5421dfd54ee9a98b23d7f676ae2b9f1180f6004c", func := "mapsheets/mapsheetslaw10.RingLocates", spec := "ringLocates", unfollowed := true, recurses := true, apart := false, narrowed := true }
def RingLocatesUptoSaid : Prop := ringLocatesUptoRow.holds Try.pinned (OpenSpec.upto ringLocatesSpec)

end Rows
end Go.Proofs.Ytafaojmkbbhjmaa
