/-
  No cell of these rows narrows 'for every input' (looked for: loops, veiled, ifaces, maps, wideKeys, modest, calm, conditions, laid).
  DERIVED. THE GIVEN ROWS OF THIS SEAT. 5 by the template 'for every input the law returns true; each argument reads behind the call as it read before'; 0 by the template 'total and deterministic' (their statements: YtaampfdgidndkaaTotals.lean).
  GIVEN WITH THE SEED: the statements are not yours to turn. If you find one false, say at which input.
  Laid BY PROGRAM, IN A SANDBOX (cutbox-rows.mjs): the forced cells as the released guide's own fill.sh prints them over the translation f240fcee246786b9… (all of the seat's roots in one cut). By AI agents, Wed Nov 11 2026. No macro, syntax, notation, axiom, sorry.
-/
import Derived.Test.YtaampfdgidndkaaChecked
import GoSem.Claim
import GoSem.ClaimJoined
import GoSem.ClaimMapViews
import Derived.JoinedTies
import Derived.KernelRfl
namespace Go.Proofs.Ytaampfdgidndkaa
/- THE CELL 'sum', in the pinned program and in every row, IS THE sha256 OF THE DUMP (.gsa) THAT YtaampfdgidndkaaProg.lean LOADS. Nothing in Lean hashes anything: it is a label: what it is worth is what the hold of that sum in a sandbox is worth. -/
noncomputable def Try.pinned : Pinned := { name := "ytaampfdgidndkaa", sum := "f240fcee246786b9f373f884a52a5942d70f1072022a299a0fbcf02d17ecd8a9", checked := Try.checked }
namespace Rows
def none {H : Type} : Left H := { results := [], args := [] }

/-- 'mapsheetslaw05.SpanNormals': WHATEVER THE INPUT: true; the input reads as it did. -/
def spanNormalsSpec : ChangeSpec := { name := "spanNormals", fn := fun _ => fun
  | [d1, d2] => { results := [.lit (.bool true)], args := [d1, d2] }
  | _ => none }
def spanNormalsRow : OpenClaim := { program := "ytaampfdgidndkaa", sum := "f240fcee246786b9f373f884a52a5942d70f1072022a299a0fbcf02d17ecd8a9", func := "mapsheets/mapsheetslaw05.SpanNormals", spec := "spanNormals", unfollowed := true, recurses := true, apart := false }
def SpanNormalsSaid : Prop := spanNormalsRow.holds Try.pinned (OpenSpec.ofChange spanNormalsSpec)

/-- ITS FALSE NEIGHBOUR: 'it returns false'. Refute it at one input. -/
def spanNormalsWrong : ChangeSpec := { name := "spanNormals", fn := fun _ => fun
  | [d1, d2] => { results := [.lit (.bool false)], args := [d1, d2] }
  | _ => none }
def SpanNormalsWrongFalsely : Prop := spanNormalsRow.holds Try.pinned (OpenSpec.ofChange spanNormalsWrong)

/-- 'mapsheetslaw05.SpanMembers': WHATEVER THE INPUT: true; the input reads as it did. -/
def spanMembersSpec : ChangeSpec := { name := "spanMembers", fn := fun _ => fun
  | [d1, d2, d3] => { results := [.lit (.bool true)], args := [d1, d2, d3] }
  | _ => none }
def spanMembersRow : OpenClaim := { program := "ytaampfdgidndkaa", sum := "f240fcee246786b9f373f884a52a5942d70f1072022a299a0fbcf02d17ecd8a9", func := "mapsheets/mapsheetslaw05.SpanMembers", spec := "spanMembers", unfollowed := true, recurses := true, apart := false }
def SpanMembersSaid : Prop := spanMembersRow.holds Try.pinned (OpenSpec.ofChange spanMembersSpec)

/-- ITS FALSE NEIGHBOUR: 'it returns false'. Refute it at one input. -/
def spanMembersWrong : ChangeSpec := { name := "spanMembers", fn := fun _ => fun
  | [d1, d2, d3] => { results := [.lit (.bool false)], args := [d1, d2, d3] }
  | _ => none }
def SpanMembersWrongFalsely : Prop := spanMembersRow.holds Try.pinned (OpenSpec.ofChange spanMembersWrong)

/-- 'mapsheetslaw05.SpanValid': WHATEVER THE INPUT: true; the input reads as it did. -/
def spanValidSpec : ChangeSpec := { name := "spanValid", fn := fun _ => fun
  | [d1, d2] => { results := [.lit (.bool true)], args := [d1, d2] }
  | _ => none }
def spanValidRow : OpenClaim := { program := "ytaampfdgidndkaa", sum := "f240fcee246786b9f373f884a52a5942d70f1072022a299a0fbcf02d17ecd8a9", func := "mapsheets/mapsheetslaw05.SpanValid", spec := "spanValid", unfollowed := true, recurses := true, apart := false }
def SpanValidSaid : Prop := spanValidRow.holds Try.pinned (OpenSpec.ofChange spanValidSpec)

/-- ITS FALSE NEIGHBOUR: 'it returns false'. Refute it at one input. -/
def spanValidWrong : ChangeSpec := { name := "spanValid", fn := fun _ => fun
  | [d1, d2] => { results := [.lit (.bool false)], args := [d1, d2] }
  | _ => none }
def SpanValidWrongFalsely : Prop := spanValidRow.holds Try.pinned (OpenSpec.ofChange spanValidWrong)

/-- 'mapsheetslaw05.SpanUnique': WHATEVER THE INPUT: true; the input reads as it did. -/
def spanUniqueSpec : ChangeSpec := { name := "spanUnique", fn := fun _ => fun
  | [d1, d2] => { results := [.lit (.bool true)], args := [d1, d2] }
  | _ => none }
def spanUniqueRow : OpenClaim := { program := "ytaampfdgidndkaa", sum := "f240fcee246786b9f373f884a52a5942d70f1072022a299a0fbcf02d17ecd8a9", func := "mapsheets/mapsheetslaw05.SpanUnique", spec := "spanUnique", unfollowed := true, recurses := true, apart := false }
def SpanUniqueSaid : Prop := spanUniqueRow.holds Try.pinned (OpenSpec.ofChange spanUniqueSpec)

/-- ITS FALSE NEIGHBOUR: 'it returns false'. Refute it at one input. -/
def spanUniqueWrong : ChangeSpec := { name := "spanUnique", fn := fun _ => fun
  | [d1, d2] => { results := [.lit (.bool false)], args := [d1, d2] }
  | _ => none }
def SpanUniqueWrongFalsely : Prop := spanUniqueRow.holds Try.pinned (OpenSpec.ofChange spanUniqueWrong)

/-- 'mapsheetslaw05.SpanTotals': WHATEVER THE INPUT: true; the input reads as it did. -/
def spanTotalsSpec : ChangeSpec := { name := "spanTotals", fn := fun _ => fun
  | [d1, d2] => { results := [.lit (.bool true)], args := [d1, d2] }
  | _ => none }
def spanTotalsRow : OpenClaim := { program := "ytaampfdgidndkaa", sum := "f240fcee246786b9f373f884a52a5942d70f1072022a299a0fbcf02d17ecd8a9", func := "mapsheets/mapsheetslaw05.SpanTotals", spec := "spanTotals", unfollowed := true, recurses := true, apart := false }
def SpanTotalsSaid : Prop := spanTotalsRow.holds Try.pinned (OpenSpec.ofChange spanTotalsSpec)

/-- ITS FALSE NEIGHBOUR: 'it returns false'. Refute it at one input. -/
def spanTotalsWrong : ChangeSpec := { name := "spanTotals", fn := fun _ => fun
  | [d1, d2] => { results := [.lit (.bool false)], args := [d1, d2] }
  | _ => none }
def SpanTotalsWrongFalsely : Prop := spanTotalsRow.holds Try.pinned (OpenSpec.ofChange spanTotalsWrong)

/- THE SECOND FORM. 'bulk': how many values and letters a reading holds, each counted each time it is reached (what is shared counts as often as it is met; a slice's spare places count too). A statement '..UptoSaid' is the law's where the arguments, and the package variables that the reading takes, are together of bulk at most 1048576: NARROWER than '..Said'. Prove '..Said' where nothing that the law and all that it calls make is longer than what came in: it says more and counts as full. Else prove '..UptoSaid'. A law counts once. -/
mutual
def uptoBulk {H : Type} : DataW H → Nat
  | .lit (.string bytes) => bytes.length + 1
  | .lit _ => 1
  | .nil => 1
  | .ptr d => uptoBulk d + 1
  | .slice elems spare => uptoBulkAll elems + uptoBulkAll spare + 1
  | .agg parts => uptoBulkAll parts + 1
  | .iface _ d => uptoBulk d + 1
  | .map entries => uptoBulkEntries entries + 1
  | .held _ => 1
def uptoBulkAll {H : Type} : List (DataW H) → Nat
  | [] => 0
  | d :: r => uptoBulk d + uptoBulkAll r
def uptoBulkEntries {H : Type} : List (Lit × DataW H) → Nat
  | [] => 0
  | x :: r => uptoBulkEntry x + uptoBulkEntries r
def uptoBulkEntry {H : Type} : Lit × DataW H → Nat
  | (.string bytes, d) => bytes.length + uptoBulk d + 1
  | (_, d) => uptoBulk d + 1
 end
def uptoSmall : (H : Type) → List (DataW H) → Bool := fun _ ds => decide (uptoBulkAll ds ≤ 1048576)
def OpenSpec.upto (s : _root_.Go.ChangeSpec) : _root_.Go.OpenSpec := { _root_.Go.OpenSpec.ofChange s with cond := some uptoSmall }

/-- 'mapsheetslaw05.SpanNormals', WHERE WHAT IT READS IS OF BULK AT MOST 1048576: true; the input reads as it did. -/
def spanNormalsUptoRow : OpenClaim := { program := "ytaampfdgidndkaa", sum := "f240fcee246786b9f373f884a52a5942d70f1072022a299a0fbcf02d17ecd8a9", func := "mapsheets/mapsheetslaw05.SpanNormals", spec := "spanNormals", unfollowed := true, recurses := true, apart := false, narrowed := true }
def SpanNormalsUptoSaid : Prop := spanNormalsUptoRow.holds Try.pinned (OpenSpec.upto spanNormalsSpec)

/-- 'mapsheetslaw05.SpanMembers', WHERE WHAT IT READS IS OF BULK AT MOST 1048576: true; the input reads as it did. -/
def spanMembersUptoRow : OpenClaim := { program := "ytaampfdgidndkaa", sum := "f240fcee246786b9f373f884a52a5942d70f1072022a299a0fbcf02d17ecd8a9", func := "mapsheets/mapsheetslaw05.SpanMembers", spec := "spanMembers", unfollowed := true, recurses := true, apart := false, narrowed := true }
def SpanMembersUptoSaid : Prop := spanMembersUptoRow.holds Try.pinned (OpenSpec.upto spanMembersSpec)

/-- 'mapsheetslaw05.SpanValid', WHERE WHAT IT READS IS OF BULK AT MOST 1048576: true; the input reads as it did. -/
def spanValidUptoRow : OpenClaim := { program := "ytaampfdgidndkaa", sum := "f240fcee246786b9f373f884a52a5942d70f1072022a299a0fbcf02d17ecd8a9", func := "mapsheets/mapsheetslaw05.SpanValid", spec := "spanValid", unfollowed := true, recurses := true, apart := false, narrowed := true }
def SpanValidUptoSaid : Prop := spanValidUptoRow.holds Try.pinned (OpenSpec.upto spanValidSpec)

/-- 'mapsheetslaw05.SpanUnique', WHERE WHAT IT READS IS OF BULK AT MOST 1048576: true; the input reads as it did. -/
def spanUniqueUptoRow : OpenClaim := { program := "ytaampfdgidndkaa", sum := "f240fcee246786b9f373f884a52a5942d70f1072022a299a0fbcf02d17ecd8a9", func := "mapsheets/mapsheetslaw05.SpanUnique", spec := "spanUnique", unfollowed := true, recurses := true, apart := false, narrowed := true }
def SpanUniqueUptoSaid : Prop := spanUniqueUptoRow.holds Try.pinned (OpenSpec.upto spanUniqueSpec)

/-- 'mapsheetslaw05.SpanTotals', WHERE WHAT IT READS IS OF BULK AT MOST 1048576: true; the input reads as it did. -/
def spanTotalsUptoRow : OpenClaim := { program := "ytaampfdgidndkaa", sum := "f240fcee246786b9f373f884a52a5942d70f1072022a299a0fbcf02d17ecd8a9", func := "mapsheets/mapsheetslaw05.SpanTotals", spec := "spanTotals", unfollowed := true, recurses := true, apart := false, narrowed := true }
def SpanTotalsUptoSaid : Prop := spanTotalsUptoRow.holds Try.pinned (OpenSpec.upto spanTotalsSpec)

end Rows
end Go.Proofs.Ytaampfdgidndkaa
