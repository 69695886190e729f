/- What the bulk of a list of spans says of its length. -/
import Derived.Test.YtaampfdgidndkaaArgs
import Derived.Test.YtaampfdgidndkaaRows
namespace Go.Proofs.Ytaampfdgidndkaa
open Go.RowKit Go.Proofs.Mp

theorem bulk_map {H : Type} (f : Nat → DataW H) (h : ∀ i, Rows.uptoBulk (f i) = 3) : ∀ l : List Nat, Rows.uptoBulkAll (l.map f) = 3 * l.length
  | [] => rfl
  | i :: l => by
    rw [List.map_cons, Rows.uptoBulkAll, h, bulk_map f h l, List.length_cons]
    omega
theorem bulk_spans {H : Type} {d : DataW H} {zs : List (Int × Int)}
    (h : d = .nil ∧ zs = [] ∨ ∃ (S : List (DataW H)), d = .slice ((List.range zs.length).map fun i => .agg [.lit (.int .i64 zs[i]!.1), .lit (.int .i64 zs[i]!.2)]) S) : 3 * zs.length ≤ Rows.uptoBulk d := by
  rcases h with ⟨rfl, rfl⟩ | ⟨S, rfl⟩
  · simp
  · rw [Rows.uptoBulk, bulk_map _ (fun i => rfl), List.length_range]
    omega
theorem bulk_two {H : Type} {d e : DataW H} {r : List (DataW H)} (h : Rows.uptoSmall H (d :: e :: r) = true) : Rows.uptoBulk d ≤ 1048576 ∧ Rows.uptoBulk e ≤ 1048576 := by
  have h1 := of_decide_eq_true h
  simp only [Rows.uptoBulkAll] at h1
  omega
end Go.Proofs.Ytaampfdgidndkaa
