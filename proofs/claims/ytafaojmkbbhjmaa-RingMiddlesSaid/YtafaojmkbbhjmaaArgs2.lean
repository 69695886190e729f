/- The arguments of the laws over points. -/
import Derived.Test.YtafaojmkbbhjmaaArgs
import Derived.Test.YtafaojmkbbhjmaaG1
set_option linter.unusedVariables false
namespace Go.Proofs
open Go.ChangeShapes Go.WideShapes Go.RowKit Go.Proofs.Mp

theorem flat3 : FlatI Try.prog 3 1 := FlatI.int Try.underlying3
theorem flat32 : FlatI Try.prog 32 (1 + 1) := FlatI.struct2 Try.underlying32 (by kernel_rfl) rfl rfl (by kernel_rfl) (by kernel_rfl) flat3 flat3
def mkPt (zs : List Int) : Pt := (zs[0]!, zs[1]!)
theorem encR_mk : ∀ zs : List Int, zs.length = 2 → encR (mkPt zs) = zs.map (Value.int .i64)
  | [_, _], _ => rfl
theorem aggP_mk : ∀ zs : List Int, zs.length = 2 → (.agg (zs.map (Value.int .i64)).toArray : Value) = aggP (mkPt zs)
  | [_, _], _ => rfl
end Go.Proofs
