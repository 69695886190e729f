/-
  No cell of these rows narrows 'for every input' (looked for: loops, veiled, ifaces, maps, wideKeys, modest, calm, conditions, laid).
  DERIVED. THE GIVEN ROWS OF THIS SEAT. 6 by the template 'for every input the law returns true; each argument reads behind the call as it read before'; 0 by the template 'total and deterministic' (their statements: YtnckglojbhlekaaTotals.lean).
  GIVEN WITH THE SEED: the statements are not yours to turn. If you find one false, say at which input.
  Laid BY PROGRAM, IN A SANDBOX (cutbox-rows.mjs): the forced cells as the released guide's own fill.sh prints them over the translation dd045871452d4d31… (all of the seat's roots in one cut). By AI agents, Wed Nov 11 2026. No macro, syntax, notation, axiom, sorry.
-/
import Derived.Test.YtnckglojbhlekaaChecked
import GoSem.Claim
import GoSem.ClaimJoined
import GoSem.ClaimMapViews
import Derived.JoinedTies
import Derived.KernelRfl
namespace Go.Proofs.Ytnckglojbhlekaa
/- THE CELL 'sum', in the pinned program and in every row, IS THE sha256 OF THE DUMP (.gsa) THAT YtnckglojbhlekaaProg.lean LOADS. Nothing in Lean hashes anything: it is a label: what it is worth is what the hold of that sum in a sandbox is worth. -/
noncomputable def Try.pinned : Pinned := { name := "ytnckglojbhlekaa", sum := "dd045871452d4d319f10e473aba7e5f6bb5006cf0fec2a3f8b33c36ca55b1410", checked := Try.checked }
namespace Rows
def none {H : Type} : Left H := { results := [], args := [] }

/-- 'mapsheetslaw55.ProofColors': WHATEVER THE INPUT: true; the input reads as it did. -/
def proofColorsSpec : ChangeSpec := { name := "proofColors", fn := fun _ => fun
  | [d] => { results := [.lit (.bool true)], args := [d] }
  | _ => none }
def proofColorsRow : OpenClaim := { program := "ytnckglojbhlekaa", sum := "dd045871452d4d319f10e473aba7e5f6bb5006cf0fec2a3f8b33c36ca55b1410", func := "mapsheets/mapsheetslaw55.ProofColors", spec := "proofColors", unfollowed := true, recurses := true, plainKeys := false, apart := false }
def ProofColorsSaid : Prop := proofColorsRow.holds Try.pinned (OpenSpec.ofChange proofColorsSpec)

/-- ITS FALSE NEIGHBOUR: 'it returns false'. Refute it at one input. -/
def proofColorsWrong : ChangeSpec := { name := "proofColors", fn := fun _ => fun
  | [d] => { results := [.lit (.bool false)], args := [d] }
  | _ => none }
def ProofColorsWrongFalsely : Prop := proofColorsRow.holds Try.pinned (OpenSpec.ofChange proofColorsWrong)

/-- 'mapsheetslaw55.ProofBoxes': WHATEVER THE INPUT: true; the input reads as it did. -/
def proofBoxesSpec : ChangeSpec := { name := "proofBoxes", fn := fun _ => fun
  | [d1, d2] => { results := [.lit (.bool true)], args := [d1, d2] }
  | _ => none }
def proofBoxesRow : OpenClaim := { program := "ytnckglojbhlekaa", sum := "dd045871452d4d319f10e473aba7e5f6bb5006cf0fec2a3f8b33c36ca55b1410", func := "mapsheets/mapsheetslaw55.ProofBoxes", spec := "proofBoxes", unfollowed := true, recurses := true, plainKeys := false, apart := false }
def ProofBoxesSaid : Prop := proofBoxesRow.holds Try.pinned (OpenSpec.ofChange proofBoxesSpec)

/-- ITS FALSE NEIGHBOUR: 'it returns false'. Refute it at one input. -/
def proofBoxesWrong : ChangeSpec := { name := "proofBoxes", fn := fun _ => fun
  | [d1, d2] => { results := [.lit (.bool false)], args := [d1, d2] }
  | _ => none }
def ProofBoxesWrongFalsely : Prop := proofBoxesRow.holds Try.pinned (OpenSpec.ofChange proofBoxesWrong)

/-- 'mapsheetslaw55.ProofExact': WHATEVER THE INPUT: true; the input reads as it did. -/
def proofExactSpec : ChangeSpec := { name := "proofExact", fn := fun _ => fun
  | [d1, d2] => { results := [.lit (.bool true)], args := [d1, d2] }
  | _ => none }
def proofExactRow : OpenClaim := { program := "ytnckglojbhlekaa", sum := "dd045871452d4d319f10e473aba7e5f6bb5006cf0fec2a3f8b33c36ca55b1410", func := "mapsheets/mapsheetslaw55.ProofExact", spec := "proofExact", unfollowed := true, recurses := true, plainKeys := false, apart := false }
def ProofExactSaid : Prop := proofExactRow.holds Try.pinned (OpenSpec.ofChange proofExactSpec)

/-- ITS FALSE NEIGHBOUR: 'it returns false'. Refute it at one input. -/
def proofExactWrong : ChangeSpec := { name := "proofExact", fn := fun _ => fun
  | [d1, d2] => { results := [.lit (.bool false)], args := [d1, d2] }
  | _ => none }
def ProofExactWrongFalsely : Prop := proofExactRow.holds Try.pinned (OpenSpec.ofChange proofExactWrong)

/-- 'mapsheetslaw55.ProofSheets': WHATEVER THE INPUT: true; the input reads as it did. -/
def proofSheetsSpec : ChangeSpec := { name := "proofSheets", fn := fun _ => fun
  | [d1, d2] => { results := [.lit (.bool true)], args := [d1, d2] }
  | _ => none }
def proofSheetsRow : OpenClaim := { program := "ytnckglojbhlekaa", sum := "dd045871452d4d319f10e473aba7e5f6bb5006cf0fec2a3f8b33c36ca55b1410", func := "mapsheets/mapsheetslaw55.ProofSheets", spec := "proofSheets", unfollowed := true, recurses := true, plainKeys := false, apart := false }
def ProofSheetsSaid : Prop := proofSheetsRow.holds Try.pinned (OpenSpec.ofChange proofSheetsSpec)

/-- ITS FALSE NEIGHBOUR: 'it returns false'. Refute it at one input. -/
def proofSheetsWrong : ChangeSpec := { name := "proofSheets", fn := fun _ => fun
  | [d1, d2] => { results := [.lit (.bool false)], args := [d1, d2] }
  | _ => none }
def ProofSheetsWrongFalsely : Prop := proofSheetsRow.holds Try.pinned (OpenSpec.ofChange proofSheetsWrong)

/-- 'mapsheetslaw55.ProofTurns': WHATEVER THE INPUT: true; the input reads as it did. -/
def proofTurnsSpec : ChangeSpec := { name := "proofTurns", fn := fun _ => fun
  | [d1, d2] => { results := [.lit (.bool true)], args := [d1, d2] }
  | _ => none }
def proofTurnsRow : OpenClaim := { program := "ytnckglojbhlekaa", sum := "dd045871452d4d319f10e473aba7e5f6bb5006cf0fec2a3f8b33c36ca55b1410", func := "mapsheets/mapsheetslaw55.ProofTurns", spec := "proofTurns", unfollowed := true, recurses := true, plainKeys := false, apart := false }
def ProofTurnsSaid : Prop := proofTurnsRow.holds Try.pinned (OpenSpec.ofChange proofTurnsSpec)

/-- ITS FALSE NEIGHBOUR: 'it returns false'. Refute it at one input. -/
def proofTurnsWrong : ChangeSpec := { name := "proofTurns", fn := fun _ => fun
  | [d1, d2] => { results := [.lit (.bool false)], args := [d1, d2] }
  | _ => none }
def ProofTurnsWrongFalsely : Prop := proofTurnsRow.holds Try.pinned (OpenSpec.ofChange proofTurnsWrong)

/-- 'mapsheetslaw55.ProofChains': WHATEVER THE INPUT: true; the input reads as it did. -/
def proofChainsSpec : ChangeSpec := { name := "proofChains", fn := fun _ => fun
  | [d1, d2, d3] => { results := [.lit (.bool true)], args := [d1, d2, d3] }
  | _ => none }
def proofChainsRow : OpenClaim := { program := "ytnckglojbhlekaa", sum := "dd045871452d4d319f10e473aba7e5f6bb5006cf0fec2a3f8b33c36ca55b1410", func := "mapsheets/mapsheetslaw55.ProofChains", spec := "proofChains", unfollowed := true, recurses := true, plainKeys := false, apart := false }
def ProofChainsSaid : Prop := proofChainsRow.holds Try.pinned (OpenSpec.ofChange proofChainsSpec)

/-- ITS FALSE NEIGHBOUR: 'it returns false'. Refute it at one input. -/
def proofChainsWrong : ChangeSpec := { name := "proofChains", fn := fun _ => fun
  | [d1, d2, d3] => { results := [.lit (.bool false)], args := [d1, d2, d3] }
  | _ => none }
def ProofChainsWrongFalsely : Prop := proofChainsRow.holds Try.pinned (OpenSpec.ofChange proofChainsWrong)

/- THE SECOND FORM. 'bulk': how many values and letters a reading holds, each counted each time it is reached (what is shared counts as often as it is met; a slice's spare places count too). A statement '..UptoSaid' is the law's where the arguments, and the package variables that the reading takes, are together of bulk at most 1048576: NARROWER than '..Said'. Prove '..Said' where nothing that the law and all that it calls make is longer than what came in: it says more and counts as full. Else prove '..UptoSaid'. A law counts once. -/
mutual
def uptoBulk {H : Type} : DataW H → Nat
  | .lit (.string bytes) => bytes.length + 1
  | .lit _ => 1
  | .nil => 1
  | .ptr d => uptoBulk d + 1
  | .slice elems spare => uptoBulkAll elems + uptoBulkAll spare + 1
  | .agg parts => uptoBulkAll parts + 1
  | .iface _ d => uptoBulk d + 1
  | .map entries => uptoBulkEntries entries + 1
  | .held _ => 1
def uptoBulkAll {H : Type} : List (DataW H) → Nat
  | [] => 0
  | d :: r => uptoBulk d + uptoBulkAll r
def uptoBulkEntries {H : Type} : List (Lit × DataW H) → Nat
  | [] => 0
  | x :: r => uptoBulkEntry x + uptoBulkEntries r
def uptoBulkEntry {H : Type} : Lit × DataW H → Nat
  | (.string bytes, d) => bytes.length + uptoBulk d + 1
  | (_, d) => uptoBulk d + 1
 end
def uptoSmall : (H : Type) → List (DataW H) → Bool := fun _ ds => decide (uptoBulkAll ds ≤ 1048576)
def OpenSpec.upto (s : _root_.Go.ChangeSpec) : _root_.Go.OpenSpec := { _root_.Go.OpenSpec.ofChange s with cond := some uptoSmall }

/-- 'mapsheetslaw55.ProofColors', WHERE WHAT IT READS IS OF BULK AT MOST 1048576: true; the input reads as it did. -/
def proofColorsUptoRow : OpenClaim := { program := "ytnckglojbhlekaa", sum := "dd045871452d4d319f10e473aba7e5f6bb5006cf0fec2a3f8b33c36ca55b1410", func := "mapsheets/mapsheetslaw55.ProofColors", spec := "proofColors", unfollowed := true, recurses := true, plainKeys := false, apart := false, narrowed := true }
def ProofColorsUptoSaid : Prop := proofColorsUptoRow.holds Try.pinned (OpenSpec.upto proofColorsSpec)

/-- 'mapsheetslaw55.ProofBoxes', WHERE WHAT IT READS IS OF BULK AT MOST 1048576: true; the input reads as it did. -/
def proofBoxesUptoRow : OpenClaim := { program := "ytnckglojbhlekaa", sum := "dd045871452d4d319f10e473aba7e5f6bb5006cf0fec2a3f8b33c36ca55b1410", func := "mapsheets/mapsheetslaw55.ProofBoxes", spec := "proofBoxes", unfollowed := true, recurses := true, plainKeys := false, apart := false, narrowed := true }
def ProofBoxesUptoSaid : Prop := proofBoxesUptoRow.holds Try.pinned (OpenSpec.upto proofBoxesSpec)

/-- 'mapsheetslaw55.ProofExact', WHERE WHAT IT READS IS OF BULK AT MOST 1048576: true; the input reads as it did. -/
def proofExactUptoRow : OpenClaim := { program := "ytnckglojbhlekaa", sum := "dd045871452d4d319f10e473aba7e5f6bb5006cf0fec2a3f8b33c36ca55b1410", func := "mapsheets/mapsheetslaw55.ProofExact", spec := "proofExact", unfollowed := true, recurses := true, plainKeys := false, apart := false, narrowed := true }
def ProofExactUptoSaid : Prop := proofExactUptoRow.holds Try.pinned (OpenSpec.upto proofExactSpec)

/-- 'mapsheetslaw55.ProofSheets', WHERE WHAT IT READS IS OF BULK AT MOST 1048576: true; the input reads as it did. -/
def proofSheetsUptoRow : OpenClaim := { program := "ytnckglojbhlekaa", sum := "dd045871452d4d319f10e473aba7e5f6bb5006cf0fec2a3f8b33c36ca55b1410", func := "mapsheets/mapsheetslaw55.ProofSheets", spec := "proofSheets", unfollowed := true, recurses := true, plainKeys := false, apart := false, narrowed := true }
def ProofSheetsUptoSaid : Prop := proofSheetsUptoRow.holds Try.pinned (OpenSpec.upto proofSheetsSpec)

/-- 'mapsheetslaw55.ProofTurns', WHERE WHAT IT READS IS OF BULK AT MOST 1048576: true; the input reads as it did. -/
def proofTurnsUptoRow : OpenClaim := { program := "ytnckglojbhlekaa", sum := "dd045871452d4d319f10e473aba7e5f6bb5006cf0fec2a3f8b33c36ca55b1410", func := "mapsheets/mapsheetslaw55.ProofTurns", spec := "proofTurns", unfollowed := true, recurses := true, plainKeys := false, apart := false, narrowed := true }
def ProofTurnsUptoSaid : Prop := proofTurnsUptoRow.holds Try.pinned (OpenSpec.upto proofTurnsSpec)

/-- 'mapsheetslaw55.ProofChains', WHERE WHAT IT READS IS OF BULK AT MOST 1048576: true; the input reads as it did. -/
def proofChainsUptoRow : OpenClaim := { program := "ytnckglojbhlekaa", sum := "dd045871452d4d319f10e473aba7e5f6bb5006cf0fec2a3f8b33c36ca55b1410", func := "mapsheets/mapsheetslaw55.ProofChains", spec := "proofChains", unfollowed := true, recurses := true, plainKeys := false, apart := false, narrowed := true }
def ProofChainsUptoSaid : Prop := proofChainsUptoRow.holds Try.pinned (OpenSpec.upto proofChainsSpec)

end Rows
end Go.Proofs.Ytnckglojbhlekaa
