/- The arguments of the laws over candidates. -/
import Derived.Test.YtoknjlodhohioaaArgs
import Derived.Test.YtoknjlodhohioaaT30
set_option linter.unusedVariables false
namespace Go.Proofs
open Go.ChangeShapes Go.WideShapes Go.RowKit Go.Proofs.Mp Go.Proofs.Uf

theorem flat3 : FlatI Try.prog 3 1 := FlatI.int Try.underlying3
theorem flat25 : FlatI Try.prog 25 (1 + 1) := FlatI.struct2 Try.underlying25 (by kernel_rfl) rfl rfl (by kernel_rfl) (by kernel_rfl) flat3 flat3
theorem flat23 : FlatI Try.prog 23 (1 + 1 + 1 + 1) := FlatI.struct4 Try.underlying23 (by kernel_rfl) rfl rfl rfl rfl (by kernel_rfl) (by kernel_rfl) (by kernel_rfl) (by kernel_rfl) flat3 flat3 flat3 flat3
theorem flat27 : FlatI Try.prog 27 (1 + (1 + 1 + 1 + 1) + (1 + 1) + 1) := FlatI.struct4 Try.underlying27 (by kernel_rfl) rfl rfl rfl rfl (by kernel_rfl) (by kernel_rfl) (by kernel_rfl) (by kernel_rfl) flat3 flat23 flat25 flat3
def mkC (zs : List Int) : Cand := ⟨zs[0]!, zs[1]!, zs[2]!, zs[3]!, zs[4]!, zs[5]!, zs[6]!, zs[7]!⟩
def mkB (zs : List Int) : Cand := ⟨0, zs[0]!, zs[1]!, zs[2]!, zs[3]!, 0, 0, 0⟩
theorem encC_mk : ∀ zs : List Int, zs.length = 8 → encC (mkC zs) = zs.map (Value.int .i64)
  | [_, _, _, _, _, _, _, _], _ => rfl
theorem encB_mk : ∀ zs : List Int, zs.length = 4 → encB (mkB zs) = zs.map (Value.int .i64)
  | [_, _, _, _], _ => rfl
theorem aggC_mk : ∀ zs : List Int, zs.length = 8 → aggC (mkC zs) = .agg (zs.map (Value.int .i64)).toArray
  | [_, _, _, _, _, _, _, _], _ => rfl
theorem wfs_of {xs : List Cand} (h : ∀ x ∈ xs, ∃ zs : List Int, x = mkC zs ∧ zs.length = 8 ∧ ∀ z ∈ zs, (Lit.int .i64 z).wf = true) : wfs (feats xs) := by
  intro f hf
  obtain ⟨x, hx, rfl⟩ := List.mem_map.1 hf
  obtain ⟨zs, rfl, hl, hw⟩ := h x hx
  match zs, hl with
  | z :: _, _ => exact hw z (List.mem_cons_self ..)
end Go.Proofs
