import Derived.Test.YtoknjlodhohioaaT31
set_option linter.unusedVariables false
set_option linter.unusedSimpArgs false
namespace Go.Proofs
open Go.RowKit Go.Proofs.Mp Go.Proofs.Uf

set_option maxHeartbeats 8000000 in
theorem law_hits (a b : Cand) (w : World) : Calls Try.prog 3 #[aggC a, aggC b] w (RetV w (.bool true)) := by
  unfold aggC
  have hw0 : Below w.heap.size w ((w.alloc (.cells #[.int .i64 a.f, .int .i64 a.x0, .int .i64 a.y0, .int .i64 a.x1, .int .i64 a.y1, .int .i64 a.ax, .int .i64 a.ay, .int .i64 a.co] 27)).alloc (.cells #[.int .i64 b.f, .int .i64 b.x0, .int .i64 b.y0, .int .i64 b.x1, .int .i64 b.y1, .int .i64 b.ax, .int .i64 b.ay, .int .i64 b.co] 27)).drew := (bw2 _ _ _).drew
  have hle : w.heap.size ≤ ((w.alloc (.cells #[.int .i64 a.f, .int .i64 a.x0, .int .i64 a.y0, .int .i64 a.x1, .int .i64 a.y1, .int .i64 a.ax, .int .i64 a.ay, .int .i64 a.co] 27)).alloc (.cells #[.int .i64 b.f, .int .i64 b.x0, .int .i64 b.y0, .int .i64 b.x1, .int .i64 b.y1, .int .i64 b.ax, .int .i64 b.ay, .int .i64 b.co] 27)).drew.heap.size := hw0.size
  have hb0 : w.heap.size < ((w.alloc (.cells #[.int .i64 a.f, .int .i64 a.x0, .int .i64 a.y0, .int .i64 a.x1, .int .i64 a.y1, .int .i64 a.ax, .int .i64 a.ay, .int .i64 a.co] 27)).alloc (.cells #[.int .i64 b.f, .int .i64 b.x0, .int .i64 b.y0, .int .i64 b.x1, .int .i64 b.y1, .int .i64 b.ax, .int .i64 b.ay, .int .i64 b.co] 27)).drew.heap.size := by show _ < ((w.alloc _).alloc _).heap.size; simp; omega
  have hb1 : w.heap.size + 1 < ((w.alloc (.cells #[.int .i64 a.f, .int .i64 a.x0, .int .i64 a.y0, .int .i64 a.x1, .int .i64 a.y1, .int .i64 a.ax, .int .i64 a.ay, .int .i64 a.co] 27)).alloc (.cells #[.int .i64 b.f, .int .i64 b.x0, .int .i64 b.y0, .int .i64 b.x1, .int .i64 b.y1, .int .i64 b.ax, .int .i64 b.ay, .int .i64 b.co] 27)).drew.heap.size := by show _ < ((w.alloc _).alloc _).heap.size; simp
  have hca : ((w.alloc (.cells #[.int .i64 a.f, .int .i64 a.x0, .int .i64 a.y0, .int .i64 a.x1, .int .i64 a.y1, .int .i64 a.ax, .int .i64 a.ay, .int .i64 a.co] 27)).alloc (.cells #[.int .i64 b.f, .int .i64 b.x0, .int .i64 b.y0, .int .i64 b.x1, .int .i64 b.y1, .int .i64 b.ax, .int .i64 b.ay, .int .i64 b.co] 27)).drew.cell? ⟨w.heap.size, 0, none⟩ = some (.int .i64 a.f) ∧ ((w.alloc (.cells #[.int .i64 a.f, .int .i64 a.x0, .int .i64 a.y0, .int .i64 a.x1, .int .i64 a.y1, .int .i64 a.ax, .int .i64 a.ay, .int .i64 a.co] 27)).alloc (.cells #[.int .i64 b.f, .int .i64 b.x0, .int .i64 b.y0, .int .i64 b.x1, .int .i64 b.y1, .int .i64 b.ax, .int .i64 b.ay, .int .i64 b.co] 27)).drew.cell? ⟨w.heap.size, 1, none⟩ = some (.int .i64 a.x0) ∧ ((w.alloc (.cells #[.int .i64 a.f, .int .i64 a.x0, .int .i64 a.y0, .int .i64 a.x1, .int .i64 a.y1, .int .i64 a.ax, .int .i64 a.ay, .int .i64 a.co] 27)).alloc (.cells #[.int .i64 b.f, .int .i64 b.x0, .int .i64 b.y0, .int .i64 b.x1, .int .i64 b.y1, .int .i64 b.ax, .int .i64 b.ay, .int .i64 b.co] 27)).drew.cell? ⟨w.heap.size, 2, none⟩ = some (.int .i64 a.y0) ∧ ((w.alloc (.cells #[.int .i64 a.f, .int .i64 a.x0, .int .i64 a.y0, .int .i64 a.x1, .int .i64 a.y1, .int .i64 a.ax, .int .i64 a.ay, .int .i64 a.co] 27)).alloc (.cells #[.int .i64 b.f, .int .i64 b.x0, .int .i64 b.y0, .int .i64 b.x1, .int .i64 b.y1, .int .i64 b.ax, .int .i64 b.ay, .int .i64 b.co] 27)).drew.cell? ⟨w.heap.size, 3, none⟩ = some (.int .i64 a.x1) ∧ ((w.alloc (.cells #[.int .i64 a.f, .int .i64 a.x0, .int .i64 a.y0, .int .i64 a.x1, .int .i64 a.y1, .int .i64 a.ax, .int .i64 a.ay, .int .i64 a.co] 27)).alloc (.cells #[.int .i64 b.f, .int .i64 b.x0, .int .i64 b.y0, .int .i64 b.x1, .int .i64 b.y1, .int .i64 b.ax, .int .i64 b.ay, .int .i64 b.co] 27)).drew.cell? ⟨w.heap.size, 4, none⟩ = some (.int .i64 a.y1) ∧ ((w.alloc (.cells #[.int .i64 a.f, .int .i64 a.x0, .int .i64 a.y0, .int .i64 a.x1, .int .i64 a.y1, .int .i64 a.ax, .int .i64 a.ay, .int .i64 a.co] 27)).alloc (.cells #[.int .i64 b.f, .int .i64 b.x0, .int .i64 b.y0, .int .i64 b.x1, .int .i64 b.y1, .int .i64 b.ax, .int .i64 b.ay, .int .i64 b.co] 27)).drew.cell? ⟨w.heap.size, 5, none⟩ = some (.int .i64 a.ax) ∧ ((w.alloc (.cells #[.int .i64 a.f, .int .i64 a.x0, .int .i64 a.y0, .int .i64 a.x1, .int .i64 a.y1, .int .i64 a.ax, .int .i64 a.ay, .int .i64 a.co] 27)).alloc (.cells #[.int .i64 b.f, .int .i64 b.x0, .int .i64 b.y0, .int .i64 b.x1, .int .i64 b.y1, .int .i64 b.ax, .int .i64 b.ay, .int .i64 b.co] 27)).drew.cell? ⟨w.heap.size, 6, none⟩ = some (.int .i64 a.ay) ∧ ((w.alloc (.cells #[.int .i64 a.f, .int .i64 a.x0, .int .i64 a.y0, .int .i64 a.x1, .int .i64 a.y1, .int .i64 a.ax, .int .i64 a.ay, .int .i64 a.co] 27)).alloc (.cells #[.int .i64 b.f, .int .i64 b.x0, .int .i64 b.y0, .int .i64 b.x1, .int .i64 b.y1, .int .i64 b.ax, .int .i64 b.ay, .int .i64 b.co] 27)).drew.cell? ⟨w.heap.size, 7, none⟩ = some (.int .i64 a.co) := by
    show ((w.alloc (.cells #[.int .i64 a.f, .int .i64 a.x0, .int .i64 a.y0, .int .i64 a.x1, .int .i64 a.y1, .int .i64 a.ax, .int .i64 a.ay, .int .i64 a.co] 27)).alloc (.cells #[.int .i64 b.f, .int .i64 b.x0, .int .i64 b.y0, .int .i64 b.x1, .int .i64 b.y1, .int .i64 b.ax, .int .i64 b.ay, .int .i64 b.co] 27)).cell? ⟨w.heap.size, 0, none⟩ = some (.int .i64 a.f) ∧ ((w.alloc (.cells #[.int .i64 a.f, .int .i64 a.x0, .int .i64 a.y0, .int .i64 a.x1, .int .i64 a.y1, .int .i64 a.ax, .int .i64 a.ay, .int .i64 a.co] 27)).alloc (.cells #[.int .i64 b.f, .int .i64 b.x0, .int .i64 b.y0, .int .i64 b.x1, .int .i64 b.y1, .int .i64 b.ax, .int .i64 b.ay, .int .i64 b.co] 27)).cell? ⟨w.heap.size, 1, none⟩ = some (.int .i64 a.x0) ∧ ((w.alloc (.cells #[.int .i64 a.f, .int .i64 a.x0, .int .i64 a.y0, .int .i64 a.x1, .int .i64 a.y1, .int .i64 a.ax, .int .i64 a.ay, .int .i64 a.co] 27)).alloc (.cells #[.int .i64 b.f, .int .i64 b.x0, .int .i64 b.y0, .int .i64 b.x1, .int .i64 b.y1, .int .i64 b.ax, .int .i64 b.ay, .int .i64 b.co] 27)).cell? ⟨w.heap.size, 2, none⟩ = some (.int .i64 a.y0) ∧ ((w.alloc (.cells #[.int .i64 a.f, .int .i64 a.x0, .int .i64 a.y0, .int .i64 a.x1, .int .i64 a.y1, .int .i64 a.ax, .int .i64 a.ay, .int .i64 a.co] 27)).alloc (.cells #[.int .i64 b.f, .int .i64 b.x0, .int .i64 b.y0, .int .i64 b.x1, .int .i64 b.y1, .int .i64 b.ax, .int .i64 b.ay, .int .i64 b.co] 27)).cell? ⟨w.heap.size, 3, none⟩ = some (.int .i64 a.x1) ∧ ((w.alloc (.cells #[.int .i64 a.f, .int .i64 a.x0, .int .i64 a.y0, .int .i64 a.x1, .int .i64 a.y1, .int .i64 a.ax, .int .i64 a.ay, .int .i64 a.co] 27)).alloc (.cells #[.int .i64 b.f, .int .i64 b.x0, .int .i64 b.y0, .int .i64 b.x1, .int .i64 b.y1, .int .i64 b.ax, .int .i64 b.ay, .int .i64 b.co] 27)).cell? ⟨w.heap.size, 4, none⟩ = some (.int .i64 a.y1) ∧ ((w.alloc (.cells #[.int .i64 a.f, .int .i64 a.x0, .int .i64 a.y0, .int .i64 a.x1, .int .i64 a.y1, .int .i64 a.ax, .int .i64 a.ay, .int .i64 a.co] 27)).alloc (.cells #[.int .i64 b.f, .int .i64 b.x0, .int .i64 b.y0, .int .i64 b.x1, .int .i64 b.y1, .int .i64 b.ax, .int .i64 b.ay, .int .i64 b.co] 27)).cell? ⟨w.heap.size, 5, none⟩ = some (.int .i64 a.ax) ∧ ((w.alloc (.cells #[.int .i64 a.f, .int .i64 a.x0, .int .i64 a.y0, .int .i64 a.x1, .int .i64 a.y1, .int .i64 a.ax, .int .i64 a.ay, .int .i64 a.co] 27)).alloc (.cells #[.int .i64 b.f, .int .i64 b.x0, .int .i64 b.y0, .int .i64 b.x1, .int .i64 b.y1, .int .i64 b.ax, .int .i64 b.ay, .int .i64 b.co] 27)).cell? ⟨w.heap.size, 6, none⟩ = some (.int .i64 a.ay) ∧ ((w.alloc (.cells #[.int .i64 a.f, .int .i64 a.x0, .int .i64 a.y0, .int .i64 a.x1, .int .i64 a.y1, .int .i64 a.ax, .int .i64 a.ay, .int .i64 a.co] 27)).alloc (.cells #[.int .i64 b.f, .int .i64 b.x0, .int .i64 b.y0, .int .i64 b.x1, .int .i64 b.y1, .int .i64 b.ax, .int .i64 b.ay, .int .i64 b.co] 27)).cell? ⟨w.heap.size, 7, none⟩ = some (.int .i64 a.co)
    refine ⟨?_, ?_, ?_, ?_, ?_, ?_, ?_, ?_⟩ <;> simp
  have hcb : ((w.alloc (.cells #[.int .i64 a.f, .int .i64 a.x0, .int .i64 a.y0, .int .i64 a.x1, .int .i64 a.y1, .int .i64 a.ax, .int .i64 a.ay, .int .i64 a.co] 27)).alloc (.cells #[.int .i64 b.f, .int .i64 b.x0, .int .i64 b.y0, .int .i64 b.x1, .int .i64 b.y1, .int .i64 b.ax, .int .i64 b.ay, .int .i64 b.co] 27)).drew.cell? ⟨w.heap.size + 1, 0, none⟩ = some (.int .i64 b.f) ∧ ((w.alloc (.cells #[.int .i64 a.f, .int .i64 a.x0, .int .i64 a.y0, .int .i64 a.x1, .int .i64 a.y1, .int .i64 a.ax, .int .i64 a.ay, .int .i64 a.co] 27)).alloc (.cells #[.int .i64 b.f, .int .i64 b.x0, .int .i64 b.y0, .int .i64 b.x1, .int .i64 b.y1, .int .i64 b.ax, .int .i64 b.ay, .int .i64 b.co] 27)).drew.cell? ⟨w.heap.size + 1, 1, none⟩ = some (.int .i64 b.x0) ∧ ((w.alloc (.cells #[.int .i64 a.f, .int .i64 a.x0, .int .i64 a.y0, .int .i64 a.x1, .int .i64 a.y1, .int .i64 a.ax, .int .i64 a.ay, .int .i64 a.co] 27)).alloc (.cells #[.int .i64 b.f, .int .i64 b.x0, .int .i64 b.y0, .int .i64 b.x1, .int .i64 b.y1, .int .i64 b.ax, .int .i64 b.ay, .int .i64 b.co] 27)).drew.cell? ⟨w.heap.size + 1, 2, none⟩ = some (.int .i64 b.y0) ∧ ((w.alloc (.cells #[.int .i64 a.f, .int .i64 a.x0, .int .i64 a.y0, .int .i64 a.x1, .int .i64 a.y1, .int .i64 a.ax, .int .i64 a.ay, .int .i64 a.co] 27)).alloc (.cells #[.int .i64 b.f, .int .i64 b.x0, .int .i64 b.y0, .int .i64 b.x1, .int .i64 b.y1, .int .i64 b.ax, .int .i64 b.ay, .int .i64 b.co] 27)).drew.cell? ⟨w.heap.size + 1, 3, none⟩ = some (.int .i64 b.x1) ∧ ((w.alloc (.cells #[.int .i64 a.f, .int .i64 a.x0, .int .i64 a.y0, .int .i64 a.x1, .int .i64 a.y1, .int .i64 a.ax, .int .i64 a.ay, .int .i64 a.co] 27)).alloc (.cells #[.int .i64 b.f, .int .i64 b.x0, .int .i64 b.y0, .int .i64 b.x1, .int .i64 b.y1, .int .i64 b.ax, .int .i64 b.ay, .int .i64 b.co] 27)).drew.cell? ⟨w.heap.size + 1, 4, none⟩ = some (.int .i64 b.y1) ∧ ((w.alloc (.cells #[.int .i64 a.f, .int .i64 a.x0, .int .i64 a.y0, .int .i64 a.x1, .int .i64 a.y1, .int .i64 a.ax, .int .i64 a.ay, .int .i64 a.co] 27)).alloc (.cells #[.int .i64 b.f, .int .i64 b.x0, .int .i64 b.y0, .int .i64 b.x1, .int .i64 b.y1, .int .i64 b.ax, .int .i64 b.ay, .int .i64 b.co] 27)).drew.cell? ⟨w.heap.size + 1, 5, none⟩ = some (.int .i64 b.ax) ∧ ((w.alloc (.cells #[.int .i64 a.f, .int .i64 a.x0, .int .i64 a.y0, .int .i64 a.x1, .int .i64 a.y1, .int .i64 a.ax, .int .i64 a.ay, .int .i64 a.co] 27)).alloc (.cells #[.int .i64 b.f, .int .i64 b.x0, .int .i64 b.y0, .int .i64 b.x1, .int .i64 b.y1, .int .i64 b.ax, .int .i64 b.ay, .int .i64 b.co] 27)).drew.cell? ⟨w.heap.size + 1, 6, none⟩ = some (.int .i64 b.ay) ∧ ((w.alloc (.cells #[.int .i64 a.f, .int .i64 a.x0, .int .i64 a.y0, .int .i64 a.x1, .int .i64 a.y1, .int .i64 a.ax, .int .i64 a.ay, .int .i64 a.co] 27)).alloc (.cells #[.int .i64 b.f, .int .i64 b.x0, .int .i64 b.y0, .int .i64 b.x1, .int .i64 b.y1, .int .i64 b.ax, .int .i64 b.ay, .int .i64 b.co] 27)).drew.cell? ⟨w.heap.size + 1, 7, none⟩ = some (.int .i64 b.co) := by
    show ((w.alloc (.cells #[.int .i64 a.f, .int .i64 a.x0, .int .i64 a.y0, .int .i64 a.x1, .int .i64 a.y1, .int .i64 a.ax, .int .i64 a.ay, .int .i64 a.co] 27)).alloc (.cells #[.int .i64 b.f, .int .i64 b.x0, .int .i64 b.y0, .int .i64 b.x1, .int .i64 b.y1, .int .i64 b.ax, .int .i64 b.ay, .int .i64 b.co] 27)).cell? ⟨w.heap.size + 1, 0, none⟩ = some (.int .i64 b.f) ∧ ((w.alloc (.cells #[.int .i64 a.f, .int .i64 a.x0, .int .i64 a.y0, .int .i64 a.x1, .int .i64 a.y1, .int .i64 a.ax, .int .i64 a.ay, .int .i64 a.co] 27)).alloc (.cells #[.int .i64 b.f, .int .i64 b.x0, .int .i64 b.y0, .int .i64 b.x1, .int .i64 b.y1, .int .i64 b.ax, .int .i64 b.ay, .int .i64 b.co] 27)).cell? ⟨w.heap.size + 1, 1, none⟩ = some (.int .i64 b.x0) ∧ ((w.alloc (.cells #[.int .i64 a.f, .int .i64 a.x0, .int .i64 a.y0, .int .i64 a.x1, .int .i64 a.y1, .int .i64 a.ax, .int .i64 a.ay, .int .i64 a.co] 27)).alloc (.cells #[.int .i64 b.f, .int .i64 b.x0, .int .i64 b.y0, .int .i64 b.x1, .int .i64 b.y1, .int .i64 b.ax, .int .i64 b.ay, .int .i64 b.co] 27)).cell? ⟨w.heap.size + 1, 2, none⟩ = some (.int .i64 b.y0) ∧ ((w.alloc (.cells #[.int .i64 a.f, .int .i64 a.x0, .int .i64 a.y0, .int .i64 a.x1, .int .i64 a.y1, .int .i64 a.ax, .int .i64 a.ay, .int .i64 a.co] 27)).alloc (.cells #[.int .i64 b.f, .int .i64 b.x0, .int .i64 b.y0, .int .i64 b.x1, .int .i64 b.y1, .int .i64 b.ax, .int .i64 b.ay, .int .i64 b.co] 27)).cell? ⟨w.heap.size + 1, 3, none⟩ = some (.int .i64 b.x1) ∧ ((w.alloc (.cells #[.int .i64 a.f, .int .i64 a.x0, .int .i64 a.y0, .int .i64 a.x1, .int .i64 a.y1, .int .i64 a.ax, .int .i64 a.ay, .int .i64 a.co] 27)).alloc (.cells #[.int .i64 b.f, .int .i64 b.x0, .int .i64 b.y0, .int .i64 b.x1, .int .i64 b.y1, .int .i64 b.ax, .int .i64 b.ay, .int .i64 b.co] 27)).cell? ⟨w.heap.size + 1, 4, none⟩ = some (.int .i64 b.y1) ∧ ((w.alloc (.cells #[.int .i64 a.f, .int .i64 a.x0, .int .i64 a.y0, .int .i64 a.x1, .int .i64 a.y1, .int .i64 a.ax, .int .i64 a.ay, .int .i64 a.co] 27)).alloc (.cells #[.int .i64 b.f, .int .i64 b.x0, .int .i64 b.y0, .int .i64 b.x1, .int .i64 b.y1, .int .i64 b.ax, .int .i64 b.ay, .int .i64 b.co] 27)).cell? ⟨w.heap.size + 1, 5, none⟩ = some (.int .i64 b.ax) ∧ ((w.alloc (.cells #[.int .i64 a.f, .int .i64 a.x0, .int .i64 a.y0, .int .i64 a.x1, .int .i64 a.y1, .int .i64 a.ax, .int .i64 a.ay, .int .i64 a.co] 27)).alloc (.cells #[.int .i64 b.f, .int .i64 b.x0, .int .i64 b.y0, .int .i64 b.x1, .int .i64 b.y1, .int .i64 b.ax, .int .i64 b.ay, .int .i64 b.co] 27)).cell? ⟨w.heap.size + 1, 6, none⟩ = some (.int .i64 b.ay) ∧ ((w.alloc (.cells #[.int .i64 a.f, .int .i64 a.x0, .int .i64 a.y0, .int .i64 a.x1, .int .i64 a.y1, .int .i64 a.ax, .int .i64 a.ay, .int .i64 a.co] 27)).alloc (.cells #[.int .i64 b.f, .int .i64 b.x0, .int .i64 b.y0, .int .i64 b.x1, .int .i64 b.y1, .int .i64 b.ax, .int .i64 b.ay, .int .i64 b.co] 27)).cell? ⟨w.heap.size + 1, 7, none⟩ = some (.int .i64 b.co)
    refine ⟨?_, ?_, ?_, ?_, ?_, ?_, ?_, ?_⟩ <;> simp
  rcases hab : hitB a b with _ | _
  · have hba : hitB b a = false := by rw [hitB_comm]; exact hab
    go_enter Try.func3, Try.ntmps3
    go_wp2_with fail
    refine wp_region_held_drew (S := fun W : World => Below ((w.alloc (.cells #[.int .i64 a.f, .int .i64 a.x0, .int .i64 a.y0, .int .i64 a.x1, .int .i64 a.y1, .int .i64 a.ax, .int .i64 a.ay, .int .i64 a.co] 27)).alloc (.cells #[.int .i64 b.f, .int .i64 b.x0, .int .i64 b.y0, .int .i64 b.x1, .int .i64 b.y1, .int .i64 b.ax, .int .i64 b.ay, .int .i64 b.co] 27)).drew.heap.size ((w.alloc (.cells #[.int .i64 a.f, .int .i64 a.x0, .int .i64 a.y0, .int .i64 a.x1, .int .i64 a.y1, .int .i64 a.ax, .int .i64 a.ay, .int .i64 a.co] 27)).alloc (.cells #[.int .i64 b.f, .int .i64 b.x0, .int .i64 b.y0, .int .i64 b.x1, .int .i64 b.y1, .int .i64 b.ax, .int .i64 b.ay, .int .i64 b.co] 27)).drew W) (by kernel_rfl) (Below.refl _ _) (fun hHeld => ?_)
    clear hHeld
    generalize ((w.alloc (.cells #[.int .i64 a.f, .int .i64 a.x0, .int .i64 a.y0, .int .i64 a.x1, .int .i64 a.y1, .int .i64 a.ax, .int .i64 a.ay, .int .i64 a.co] 27)).alloc (.cells #[.int .i64 b.f, .int .i64 b.x0, .int .i64 b.y0, .int .i64 b.x1, .int .i64 b.y1, .int .i64 b.ax, .int .i64 b.ay, .int .i64 b.co] 27)).drew = w0 at *
    generalize w.heap.size + 1 = b1 at hb1 hcb ⊢
    generalize w.heap.size = b0 at hb0 hca ⊢
    have hS0 : (fun W : World => Below w0.heap.size w0 W) w0 := Below.refl _ _
    have HA : Hid (∀ W, (fun W : World => Below w0.heap.size w0 W) W → W.cell? ⟨b0, 0, none⟩ = some (.int .i64 a.f) ∧ W.cell? ⟨b0, 1, none⟩ = some (.int .i64 a.x0) ∧ W.cell? ⟨b0, 2, none⟩ = some (.int .i64 a.y0) ∧ W.cell? ⟨b0, 3, none⟩ = some (.int .i64 a.x1) ∧ W.cell? ⟨b0, 4, none⟩ = some (.int .i64 a.y1) ∧ W.cell? ⟨b0, 5, none⟩ = some (.int .i64 a.ax) ∧ W.cell? ⟨b0, 6, none⟩ = some (.int .i64 a.ay) ∧ W.cell? ⟨b0, 7, none⟩ = some (.int .i64 a.co)) := Lib.hid (fun W hb => by
      obtain ⟨g0, g1, g2, g3, g4, g5, g6, g7⟩ := hca
      exact ⟨(hb.cell (p := ⟨b0, 0, none⟩) hb0).trans g0, (hb.cell (p := ⟨b0, 1, none⟩) hb0).trans g1, (hb.cell (p := ⟨b0, 2, none⟩) hb0).trans g2, (hb.cell (p := ⟨b0, 3, none⟩) hb0).trans g3, (hb.cell (p := ⟨b0, 4, none⟩) hb0).trans g4, (hb.cell (p := ⟨b0, 5, none⟩) hb0).trans g5, (hb.cell (p := ⟨b0, 6, none⟩) hb0).trans g6, (hb.cell (p := ⟨b0, 7, none⟩) hb0).trans g7⟩)
    have HB : Hid (∀ W, (fun W : World => Below w0.heap.size w0 W) W → W.cell? ⟨b1, 0, none⟩ = some (.int .i64 b.f) ∧ W.cell? ⟨b1, 1, none⟩ = some (.int .i64 b.x0) ∧ W.cell? ⟨b1, 2, none⟩ = some (.int .i64 b.y0) ∧ W.cell? ⟨b1, 3, none⟩ = some (.int .i64 b.x1) ∧ W.cell? ⟨b1, 4, none⟩ = some (.int .i64 b.y1) ∧ W.cell? ⟨b1, 5, none⟩ = some (.int .i64 b.ax) ∧ W.cell? ⟨b1, 6, none⟩ = some (.int .i64 b.ay) ∧ W.cell? ⟨b1, 7, none⟩ = some (.int .i64 b.co)) := Lib.hid (fun W hb => by
      obtain ⟨g0, g1, g2, g3, g4, g5, g6, g7⟩ := hcb
      exact ⟨(hb.cell (p := ⟨b1, 0, none⟩) hb1).trans g0, (hb.cell (p := ⟨b1, 1, none⟩) hb1).trans g1, (hb.cell (p := ⟨b1, 2, none⟩) hb1).trans g2, (hb.cell (p := ⟨b1, 3, none⟩) hb1).trans g3, (hb.cell (p := ⟨b1, 4, none⟩) hb1).trans g4, (hb.cell (p := ⟨b1, 5, none⟩) hb1).trans g5, (hb.cell (p := ⟨b1, 6, none⟩) hb1).trans g6, (hb.cell (p := ⟨b1, 7, none⟩) hb1).trans g7⟩)
    clear hca hcb hb0 hb1
    refine wpAnyH_take (i := 0) (oi := ⟨some 5, _, _, _, _, _⟩) (v := ?vrf1) rfl (by kernel_rfl) (by kernel_rfl) (by kernel_rfl) (fun _ _ _ h => h) (Or.inl ⟨by kernel_rfl, ?hyrf1⟩) (by assumption) ?restrf1
    case hyrf1 => (intro W hSw; obtain ⟨c0, c1, c2, c3, c4, c5, c6, c7⟩ := HA.out W hSw; clear hSw; (try dsimp only at hSw); go_simp; try with_reducible rfl)
    case' restrf1 => try simp only [Act.put, List.setIfInBounds_toArray, List.set_cons_zero, List.set_cons_succ]
    refine wpAnyH_take (i := 1) (oi := ⟨some 6, _, _, _, _, _⟩) (v := ?vrf2) rfl (by kernel_rfl) (by kernel_rfl) (by kernel_rfl) (fun _ _ _ h => h) (Or.inl ⟨by kernel_rfl, ?hyrf2⟩) (by assumption) ?restrf2
    case hyrf2 => (intro W hSw; obtain ⟨c0, c1, c2, c3, c4, c5, c6, c7⟩ := HB.out W hSw; clear hSw; (try dsimp only at hSw); go_simp; try with_reducible rfl)
    case' restrf2 => try simp only [Act.put, List.setIfInBounds_toArray, List.set_cons_zero, List.set_cons_succ]
    refine wpAnyH_take (i := 3) (oi := ⟨some 8, _, _, _, _, _⟩) (v := ?vrf3) rfl (by kernel_rfl) (by kernel_rfl) (by kernel_rfl) (fun _ _ _ h => h) (Or.inl ⟨by kernel_rfl, ?hyrf3⟩) (by assumption) ?restrf3
    case hyrf3 => (intro W hSw; obtain ⟨c0, c1, c2, c3, c4, c5, c6, c7⟩ := HA.out W hSw; clear hSw; (try dsimp only at hSw); go_simp; try with_reducible rfl)
    case' restrf3 => try simp only [Act.put, List.setIfInBounds_toArray, List.set_cons_zero, List.set_cons_succ]
    refine wpAnyH_take (i := 4) (oi := ⟨some 9, _, _, _, _, _⟩) (v := ?vrf4) rfl (by kernel_rfl) (by kernel_rfl) (by kernel_rfl) (fun _ _ _ h => h) (Or.inl ⟨by kernel_rfl, ?hyrf4⟩) (by assumption) ?restrf4
    case hyrf4 => (intro W hSw; obtain ⟨c0, c1, c2, c3, c4, c5, c6, c7⟩ := HB.out W hSw; clear hSw; (try dsimp only at hSw); go_simp; try with_reducible rfl)
    case' restrf4 => try simp only [Act.put, List.setIfInBounds_toArray, List.set_cons_zero, List.set_cons_succ]
    refine wpAnyH_ready (rs := [2]) (by kernel_rfl) (by simp) ?_
    refine AllReadyH.cons (o := ⟨some 7, _, _, _, _, _⟩) rfl (fun K hK => ?_) AllReadyH.nil
    go_simp
    go_at_call 9
    refine (k_hit (x := a) (y := b) hab).mono ?_
    rintro e Wrf1 ⟨rfl, hbWrf1⟩
    have hSWrf1 := hS0.trans (hbWrf1.mono hS0.size)
    try clear hS0
    clear hbWrf1
    go_wp2_with fail
    refine hK.out _ _ hSWrf1 (fun hHeld => ?_)
    clear hK hHeld K
    try simp only [Act.put, List.setIfInBounds_toArray, List.set_cons_zero, List.set_cons_succ]
    refine wpAnyH_ready (rs := [5]) (by kernel_rfl) (by simp) ?_
    refine AllReadyH.cons (o := ⟨some 10, _, _, _, _, _⟩) rfl (fun K hK => ?_) AllReadyH.nil
    go_simp
    go_at_call 10
    refine (k_rhit (x := a) (y := b) hab).mono ?_
    rintro e Wrf2 ⟨rfl, hbWrf2⟩
    have hSWrf2 := hSWrf1.trans (hbWrf2.mono hSWrf1.size)
    try clear hSWrf1
    clear hbWrf2
    go_wp2_with fail
    refine hK.out _ _ hSWrf2 (fun hHeld => ?_)
    clear hK hHeld K
    try simp only [Act.put, List.setIfInBounds_toArray, List.set_cons_zero, List.set_cons_succ]
    refine wpAnyH_take (i := 6) (oi := ⟨some 11, _, _, _, _, _⟩) (v := ?vrf5) rfl (by kernel_rfl) (by kernel_rfl) (by kernel_rfl) (fun _ _ _ h => h) (Or.inl ⟨by kernel_rfl, ?hyrf5⟩) (by assumption) ?restrf5
    case hyrf5 => (intro W hSw; (try dsimp only at hSw); go_simp; try with_reducible rfl)
    case' restrf5 => try simp only [Act.put, List.setIfInBounds_toArray, List.set_cons_zero, List.set_cons_succ]
    refine wpAnyH_take (i := 7) (oi := ⟨some 12, _, _, _, _, _⟩) (v := ?vrf6) rfl (by kernel_rfl) (by kernel_rfl) (by kernel_rfl) (fun _ _ _ h => h) (Or.inl ⟨by kernel_rfl, ?hyrf6⟩) (by assumption) ?restrf6
    case hyrf6 => (intro W hSw; (try dsimp only at hSw); go_simp; try with_reducible rfl)
    case' restrf6 => try simp only [Act.put, List.setIfInBounds_toArray, List.set_cons_zero, List.set_cons_succ]
    refine wpAnyH_take (i := 8) (oi := ⟨some 13, _, _, _, _, _⟩) (v := ?vrf7) rfl (by kernel_rfl) (by kernel_rfl) (by kernel_rfl) (fun _ _ _ h => h) (Or.inl ⟨by kernel_rfl, ?hyrf7⟩) (by assumption) ?restrf7
    case hyrf7 => (intro W hSw; obtain ⟨c0, c1, c2, c3, c4, c5, c6, c7⟩ := HB.out W hSw; clear hSw; (try dsimp only at hSw); go_simp; try with_reducible rfl)
    case' restrf7 => try simp only [Act.put, List.setIfInBounds_toArray, List.set_cons_zero, List.set_cons_succ]
    refine wpAnyH_take (i := 9) (oi := ⟨some 14, _, _, _, _, _⟩) (v := ?vrf8) rfl (by kernel_rfl) (by kernel_rfl) (by kernel_rfl) (fun _ _ _ h => h) (Or.inl ⟨by kernel_rfl, ?hyrf8⟩) (by assumption) ?restrf8
    case hyrf8 => (intro W hSw; obtain ⟨c0, c1, c2, c3, c4, c5, c6, c7⟩ := HA.out W hSw; clear hSw; (try dsimp only at hSw); go_simp; try with_reducible rfl)
    case' restrf8 => try simp only [Act.put, List.setIfInBounds_toArray, List.set_cons_zero, List.set_cons_succ]
    refine wpAnyH_take (i := 11) (oi := ⟨some 16, _, _, _, _, _⟩) (v := ?vrf9) rfl (by kernel_rfl) (by kernel_rfl) (by kernel_rfl) (fun _ _ _ h => h) (Or.inl ⟨by kernel_rfl, ?hyrf9⟩) (by assumption) ?restrf9
    case hyrf9 => (intro W hSw; obtain ⟨c0, c1, c2, c3, c4, c5, c6, c7⟩ := HA.out W hSw; clear hSw; (try dsimp only at hSw); go_simp; try with_reducible rfl)
    case' restrf9 => try simp only [Act.put, List.setIfInBounds_toArray, List.set_cons_zero, List.set_cons_succ]
    refine wpAnyH_take (i := 12) (oi := ⟨some 17, _, _, _, _, _⟩) (v := ?vrf10) rfl (by kernel_rfl) (by kernel_rfl) (by kernel_rfl) (fun _ _ _ h => h) (Or.inl ⟨by kernel_rfl, ?hyrf10⟩) (by assumption) ?restrf10
    case hyrf10 => (intro W hSw; obtain ⟨c0, c1, c2, c3, c4, c5, c6, c7⟩ := HB.out W hSw; clear hSw; (try dsimp only at hSw); go_simp; try with_reducible rfl)
    case' restrf10 => try simp only [Act.put, List.setIfInBounds_toArray, List.set_cons_zero, List.set_cons_succ]
    refine wpAnyH_ready (rs := [10]) (by kernel_rfl) (by simp) ?_
    refine AllReadyH.cons (o := ⟨some 15, _, _, _, _, _⟩) rfl (fun K hK => ?_) AllReadyH.nil
    go_simp
    go_at_call 9
    refine (k_hit (x := b) (y := a) hba).mono ?_
    rintro e Wrf3 ⟨rfl, hbWrf3⟩
    have hSWrf3 := hSWrf2.trans (hbWrf3.mono hSWrf2.size)
    try clear hSWrf2
    clear hbWrf3
    go_wp2_with fail
    refine hK.out _ _ hSWrf3 (fun hHeld => ?_)
    clear hK hHeld K
    try simp only [Act.put, List.setIfInBounds_toArray, List.set_cons_zero, List.set_cons_succ]
    refine wpAnyH_ready (rs := [13]) (by kernel_rfl) (by simp) ?_
    refine AllReadyH.cons (o := ⟨some 18, _, _, _, _, _⟩) rfl (fun K hK => ?_) AllReadyH.nil
    go_simp
    go_at_call 10
    refine (k_rhit (x := a) (y := b) hab).mono ?_
    rintro e Wrf4 ⟨rfl, hbWrf4⟩
    have hSWrf4 := hSWrf3.trans (hbWrf4.mono hSWrf3.size)
    try clear hSWrf3
    clear hbWrf4
    go_wp2_with fail
    refine hK.out _ _ hSWrf4 (fun hHeld => ?_)
    clear hK hHeld K
    try simp only [Act.put, List.setIfInBounds_toArray, List.set_cons_zero, List.set_cons_succ]
    refine wpAnyH_take (i := 14) (oi := ⟨some 19, _, _, _, _, _⟩) (v := ?vrf11) rfl (by kernel_rfl) (by kernel_rfl) (by kernel_rfl) (fun _ _ _ h => h) (Or.inl ⟨by kernel_rfl, ?hyrf11⟩) (by assumption) ?restrf11
    case hyrf11 => (intro W hSw; (try dsimp only at hSw); go_simp; try with_reducible rfl)
    case' restrf11 => try simp only [Act.put, List.setIfInBounds_toArray, List.set_cons_zero, List.set_cons_succ]
    refine wpAnyH_take (i := 15) (oi := ⟨some 20, _, _, _, _, _⟩) (v := ?vrf12) rfl (by kernel_rfl) (by kernel_rfl) (by kernel_rfl) (fun _ _ _ h => h) (Or.inl ⟨by kernel_rfl, ?hyrf12⟩) (by assumption) ?restrf12
    case hyrf12 => (intro W hSw; (try dsimp only at hSw); go_simp; try with_reducible rfl)
    case' restrf12 => try simp only [Act.put, List.setIfInBounds_toArray, List.set_cons_zero, List.set_cons_succ]
    refine wpAnyH_take (i := 16) (oi := ⟨some 21, _, _, _, _, _⟩) (v := ?vrf13) rfl (by kernel_rfl) (by kernel_rfl) (by kernel_rfl) (fun _ _ _ h => h) (Or.inl ⟨by kernel_rfl, ?hyrf13⟩) (by assumption) ?restrf13
    case hyrf13 => (intro W hSw; (try dsimp only at hSw); go_simp; try with_reducible rfl)
    case' restrf13 => try simp only [Act.put, List.setIfInBounds_toArray, List.set_cons_zero, List.set_cons_succ]
    refine wpAnyH_take (i := 17) (oi := ⟨some 22, _, _, _, _, _⟩) (v := ?vrf14) rfl (by kernel_rfl) (by kernel_rfl) (by kernel_rfl) (fun _ _ _ h => h) (Or.inl ⟨by kernel_rfl, ?hyrf14⟩) (by assumption) ?restrf14
    case hyrf14 => (intro W hSw; obtain ⟨c0, c1, c2, c3, c4, c5, c6, c7⟩ := HA.out W hSw; clear hSw; (try dsimp only at hSw); go_simp; try with_reducible rfl)
    case' restrf14 => try simp only [Act.put, List.setIfInBounds_toArray, List.set_cons_zero, List.set_cons_succ]
    refine wpAnyH_take (i := 18) (oi := ⟨some 23, _, _, _, _, _⟩) (v := ?vrf15) rfl (by kernel_rfl) (by kernel_rfl) (by kernel_rfl) (fun _ _ _ h => h) (Or.inl ⟨by kernel_rfl, ?hyrf15⟩) (by assumption) ?restrf15
    case hyrf15 => (intro W hSw; obtain ⟨c0, c1, c2, c3, c4, c5, c6, c7⟩ := HA.out W hSw; clear hSw; (try dsimp only at hSw); go_simp; try with_reducible rfl)
    case' restrf15 => try simp only [Act.put, List.setIfInBounds_toArray, List.set_cons_zero, List.set_cons_succ]
    refine wpAnyH_ready (rs := [19]) (by kernel_rfl) (by simp) ?_
    refine AllReadyH.cons (o := ⟨some 24, _, _, _, _, _⟩) rfl (fun K hK => ?_) AllReadyH.nil
    go_simp
    go_at_call 9
    refine (k_hit (x := a) (y := a) (hitB_self a)).mono ?_
    rintro e Wrf5 ⟨rfl, hbWrf5⟩
    have hSWrf5 := hSWrf4.trans (hbWrf5.mono hSWrf4.size)
    try clear hSWrf4
    clear hbWrf5
    go_wp2_with fail
    refine hK.out _ _ hSWrf5 (fun hHeld => ?_)
    clear hK hHeld K
    try simp only [Act.put, List.setIfInBounds_toArray, List.set_cons_zero, List.set_cons_succ]
    refine wpAnyH_take (i := 20) (oi := ⟨some 25, _, _, _, _, _⟩) (v := ?vrf16) rfl (by kernel_rfl) (by kernel_rfl) (by kernel_rfl) (fun _ _ _ h => h) (Or.inl ⟨by kernel_rfl, ?hyrf16⟩) (by assumption) ?restrf16
    case hyrf16 => (intro W hSw; (try dsimp only at hSw); go_simp; try with_reducible rfl)
    case' restrf16 => try simp only [Act.put, List.setIfInBounds_toArray, List.set_cons_zero, List.set_cons_succ]
    refine wpAnyH_take (i := 21) (oi := ⟨some 26, _, _, _, _, _⟩) (v := ?vrf17) rfl (by kernel_rfl) (by kernel_rfl) (by kernel_rfl) (fun _ _ _ h => h) (Or.inl ⟨by kernel_rfl, ?hyrf17⟩) (by assumption) ?restrf17
    case hyrf17 => (intro W hSw; (try dsimp only at hSw); go_simp; try with_reducible rfl)
    case' restrf17 => try simp only [Act.put, List.setIfInBounds_toArray, List.set_cons_zero, List.set_cons_succ]
    refine wpAnyH_ready (rs := [22]) (by kernel_rfl) (by simp) ?_
    refine AllReadyH.cons (o := ⟨some 27, _, _, _, _, _⟩) rfl (fun K hK => ?_) AllReadyH.nil
    go_simp
    go_at_call 11
    refine (law_awake Wrf5).mono ?_
    rintro e Wrf6 ⟨rfl, hbWrf6⟩
    have hSWrf6 := hSWrf5.trans (hbWrf6.mono hSWrf5.size)
    try clear hSWrf5
    clear hbWrf6
    go_wp2_with fail
    refine hK.out _ _ hSWrf6 (fun hHeld => ?_)
    clear hK hHeld K
    try simp only [Act.put, List.setIfInBounds_toArray, List.set_cons_zero, List.set_cons_succ]
    refine wpAnyH_take (i := 23) (oi := ⟨some 28, _, _, _, _, _⟩) (v := ?vrf18) rfl (by kernel_rfl) (by kernel_rfl) (by kernel_rfl) (fun _ _ _ h => h) (Or.inl ⟨by kernel_rfl, ?hyrf18⟩) (by assumption) ?restrf18
    case hyrf18 => (intro W hSw; (try dsimp only at hSw); go_simp; try with_reducible rfl)
    case' restrf18 => try simp only [Act.put, List.setIfInBounds_toArray, List.set_cons_zero, List.set_cons_succ]
    refine wpAnyH_take (i := 24) (oi := ⟨some 4, _, _, _, _, _⟩) (v := ?vrf19) rfl (by kernel_rfl) (by kernel_rfl) (by kernel_rfl) (fun _ _ _ h => h) (Or.inl ⟨by kernel_rfl, ?hyrf19⟩) (by assumption) ?restrf19
    case hyrf19 => (intro W hSw; (try dsimp only at hSw); go_simp; try with_reducible rfl)
    case' restrf19 => try simp only [Act.put, List.setIfInBounds_toArray, List.set_cons_zero, List.set_cons_succ]
    refine wpAnyH_done (by kernel_rfl) ?_ _
    go_wp2
    go_ret
    exact RetV.bool rfl (hw0.trans (hSWrf6.mono hle))
  · have hba : hitB b a = true := by rw [hitB_comm]; exact hab
    go_enter Try.func3, Try.ntmps3
    go_wp2_with fail
    refine wp_region_held_drew (S := fun W : World => Below ((w.alloc (.cells #[.int .i64 a.f, .int .i64 a.x0, .int .i64 a.y0, .int .i64 a.x1, .int .i64 a.y1, .int .i64 a.ax, .int .i64 a.ay, .int .i64 a.co] 27)).alloc (.cells #[.int .i64 b.f, .int .i64 b.x0, .int .i64 b.y0, .int .i64 b.x1, .int .i64 b.y1, .int .i64 b.ax, .int .i64 b.ay, .int .i64 b.co] 27)).drew.heap.size ((w.alloc (.cells #[.int .i64 a.f, .int .i64 a.x0, .int .i64 a.y0, .int .i64 a.x1, .int .i64 a.y1, .int .i64 a.ax, .int .i64 a.ay, .int .i64 a.co] 27)).alloc (.cells #[.int .i64 b.f, .int .i64 b.x0, .int .i64 b.y0, .int .i64 b.x1, .int .i64 b.y1, .int .i64 b.ax, .int .i64 b.ay, .int .i64 b.co] 27)).drew W) (by kernel_rfl) (Below.refl _ _) (fun hHeld => ?_)
    clear hHeld
    generalize ((w.alloc (.cells #[.int .i64 a.f, .int .i64 a.x0, .int .i64 a.y0, .int .i64 a.x1, .int .i64 a.y1, .int .i64 a.ax, .int .i64 a.ay, .int .i64 a.co] 27)).alloc (.cells #[.int .i64 b.f, .int .i64 b.x0, .int .i64 b.y0, .int .i64 b.x1, .int .i64 b.y1, .int .i64 b.ax, .int .i64 b.ay, .int .i64 b.co] 27)).drew = w0 at *
    generalize w.heap.size + 1 = b1 at hb1 hcb ⊢
    generalize w.heap.size = b0 at hb0 hca ⊢
    have hS0 : (fun W : World => Below w0.heap.size w0 W) w0 := Below.refl _ _
    have HA : Hid (∀ W, (fun W : World => Below w0.heap.size w0 W) W → W.cell? ⟨b0, 0, none⟩ = some (.int .i64 a.f) ∧ W.cell? ⟨b0, 1, none⟩ = some (.int .i64 a.x0) ∧ W.cell? ⟨b0, 2, none⟩ = some (.int .i64 a.y0) ∧ W.cell? ⟨b0, 3, none⟩ = some (.int .i64 a.x1) ∧ W.cell? ⟨b0, 4, none⟩ = some (.int .i64 a.y1) ∧ W.cell? ⟨b0, 5, none⟩ = some (.int .i64 a.ax) ∧ W.cell? ⟨b0, 6, none⟩ = some (.int .i64 a.ay) ∧ W.cell? ⟨b0, 7, none⟩ = some (.int .i64 a.co)) := Lib.hid (fun W hb => by
      obtain ⟨g0, g1, g2, g3, g4, g5, g6, g7⟩ := hca
      exact ⟨(hb.cell (p := ⟨b0, 0, none⟩) hb0).trans g0, (hb.cell (p := ⟨b0, 1, none⟩) hb0).trans g1, (hb.cell (p := ⟨b0, 2, none⟩) hb0).trans g2, (hb.cell (p := ⟨b0, 3, none⟩) hb0).trans g3, (hb.cell (p := ⟨b0, 4, none⟩) hb0).trans g4, (hb.cell (p := ⟨b0, 5, none⟩) hb0).trans g5, (hb.cell (p := ⟨b0, 6, none⟩) hb0).trans g6, (hb.cell (p := ⟨b0, 7, none⟩) hb0).trans g7⟩)
    have HB : Hid (∀ W, (fun W : World => Below w0.heap.size w0 W) W → W.cell? ⟨b1, 0, none⟩ = some (.int .i64 b.f) ∧ W.cell? ⟨b1, 1, none⟩ = some (.int .i64 b.x0) ∧ W.cell? ⟨b1, 2, none⟩ = some (.int .i64 b.y0) ∧ W.cell? ⟨b1, 3, none⟩ = some (.int .i64 b.x1) ∧ W.cell? ⟨b1, 4, none⟩ = some (.int .i64 b.y1) ∧ W.cell? ⟨b1, 5, none⟩ = some (.int .i64 b.ax) ∧ W.cell? ⟨b1, 6, none⟩ = some (.int .i64 b.ay) ∧ W.cell? ⟨b1, 7, none⟩ = some (.int .i64 b.co)) := Lib.hid (fun W hb => by
      obtain ⟨g0, g1, g2, g3, g4, g5, g6, g7⟩ := hcb
      exact ⟨(hb.cell (p := ⟨b1, 0, none⟩) hb1).trans g0, (hb.cell (p := ⟨b1, 1, none⟩) hb1).trans g1, (hb.cell (p := ⟨b1, 2, none⟩) hb1).trans g2, (hb.cell (p := ⟨b1, 3, none⟩) hb1).trans g3, (hb.cell (p := ⟨b1, 4, none⟩) hb1).trans g4, (hb.cell (p := ⟨b1, 5, none⟩) hb1).trans g5, (hb.cell (p := ⟨b1, 6, none⟩) hb1).trans g6, (hb.cell (p := ⟨b1, 7, none⟩) hb1).trans g7⟩)
    clear hca hcb hb0 hb1
    refine wpAnyH_take (i := 0) (oi := ⟨some 5, _, _, _, _, _⟩) (v := ?vrt1) rfl (by kernel_rfl) (by kernel_rfl) (by kernel_rfl) (fun _ _ _ h => h) (Or.inl ⟨by kernel_rfl, ?hyrt1⟩) (by assumption) ?restrt1
    case hyrt1 => (intro W hSw; obtain ⟨c0, c1, c2, c3, c4, c5, c6, c7⟩ := HA.out W hSw; clear hSw; (try dsimp only at hSw); go_simp; try with_reducible rfl)
    case' restrt1 => try simp only [Act.put, List.setIfInBounds_toArray, List.set_cons_zero, List.set_cons_succ]
    refine wpAnyH_take (i := 1) (oi := ⟨some 6, _, _, _, _, _⟩) (v := ?vrt2) rfl (by kernel_rfl) (by kernel_rfl) (by kernel_rfl) (fun _ _ _ h => h) (Or.inl ⟨by kernel_rfl, ?hyrt2⟩) (by assumption) ?restrt2
    case hyrt2 => (intro W hSw; obtain ⟨c0, c1, c2, c3, c4, c5, c6, c7⟩ := HB.out W hSw; clear hSw; (try dsimp only at hSw); go_simp; try with_reducible rfl)
    case' restrt2 => try simp only [Act.put, List.setIfInBounds_toArray, List.set_cons_zero, List.set_cons_succ]
    refine wpAnyH_take (i := 3) (oi := ⟨some 8, _, _, _, _, _⟩) (v := ?vrt3) rfl (by kernel_rfl) (by kernel_rfl) (by kernel_rfl) (fun _ _ _ h => h) (Or.inl ⟨by kernel_rfl, ?hyrt3⟩) (by assumption) ?restrt3
    case hyrt3 => (intro W hSw; obtain ⟨c0, c1, c2, c3, c4, c5, c6, c7⟩ := HA.out W hSw; clear hSw; (try dsimp only at hSw); go_simp; try with_reducible rfl)
    case' restrt3 => try simp only [Act.put, List.setIfInBounds_toArray, List.set_cons_zero, List.set_cons_succ]
    refine wpAnyH_take (i := 4) (oi := ⟨some 9, _, _, _, _, _⟩) (v := ?vrt4) rfl (by kernel_rfl) (by kernel_rfl) (by kernel_rfl) (fun _ _ _ h => h) (Or.inl ⟨by kernel_rfl, ?hyrt4⟩) (by assumption) ?restrt4
    case hyrt4 => (intro W hSw; obtain ⟨c0, c1, c2, c3, c4, c5, c6, c7⟩ := HB.out W hSw; clear hSw; (try dsimp only at hSw); go_simp; try with_reducible rfl)
    case' restrt4 => try simp only [Act.put, List.setIfInBounds_toArray, List.set_cons_zero, List.set_cons_succ]
    refine wpAnyH_ready (rs := [2]) (by kernel_rfl) (by simp) ?_
    refine AllReadyH.cons (o := ⟨some 7, _, _, _, _, _⟩) rfl (fun K hK => ?_) AllReadyH.nil
    go_simp
    go_at_call 9
    refine (k_hit (x := a) (y := b) hab).mono ?_
    rintro e Wrt1 ⟨rfl, hbWrt1⟩
    have hSWrt1 := hS0.trans (hbWrt1.mono hS0.size)
    try clear hS0
    clear hbWrt1
    go_wp2_with fail
    refine hK.out _ _ hSWrt1 (fun hHeld => ?_)
    clear hK hHeld K
    try simp only [Act.put, List.setIfInBounds_toArray, List.set_cons_zero, List.set_cons_succ]
    refine wpAnyH_ready (rs := [5]) (by kernel_rfl) (by simp) ?_
    refine AllReadyH.cons (o := ⟨some 10, _, _, _, _, _⟩) rfl (fun K hK => ?_) AllReadyH.nil
    go_simp
    go_at_call 10
    refine (k_rhit (x := a) (y := b) hab).mono ?_
    rintro e Wrt2 ⟨rfl, hbWrt2⟩
    have hSWrt2 := hSWrt1.trans (hbWrt2.mono hSWrt1.size)
    try clear hSWrt1
    clear hbWrt2
    go_wp2_with fail
    refine hK.out _ _ hSWrt2 (fun hHeld => ?_)
    clear hK hHeld K
    try simp only [Act.put, List.setIfInBounds_toArray, List.set_cons_zero, List.set_cons_succ]
    refine wpAnyH_take (i := 6) (oi := ⟨some 11, _, _, _, _, _⟩) (v := ?vrt5) rfl (by kernel_rfl) (by kernel_rfl) (by kernel_rfl) (fun _ _ _ h => h) (Or.inl ⟨by kernel_rfl, ?hyrt5⟩) (by assumption) ?restrt5
    case hyrt5 => (intro W hSw; (try dsimp only at hSw); go_simp; try with_reducible rfl)
    case' restrt5 => try simp only [Act.put, List.setIfInBounds_toArray, List.set_cons_zero, List.set_cons_succ]
    refine wpAnyH_take (i := 7) (oi := ⟨some 12, _, _, _, _, _⟩) (v := ?vrt6) rfl (by kernel_rfl) (by kernel_rfl) (by kernel_rfl) (fun _ _ _ h => h) (Or.inl ⟨by kernel_rfl, ?hyrt6⟩) (by assumption) ?restrt6
    case hyrt6 => (intro W hSw; (try dsimp only at hSw); go_simp; try with_reducible rfl)
    case' restrt6 => try simp only [Act.put, List.setIfInBounds_toArray, List.set_cons_zero, List.set_cons_succ]
    refine wpAnyH_take (i := 8) (oi := ⟨some 13, _, _, _, _, _⟩) (v := ?vrt7) rfl (by kernel_rfl) (by kernel_rfl) (by kernel_rfl) (fun _ _ _ h => h) (Or.inl ⟨by kernel_rfl, ?hyrt7⟩) (by assumption) ?restrt7
    case hyrt7 => (intro W hSw; obtain ⟨c0, c1, c2, c3, c4, c5, c6, c7⟩ := HB.out W hSw; clear hSw; (try dsimp only at hSw); go_simp; try with_reducible rfl)
    case' restrt7 => try simp only [Act.put, List.setIfInBounds_toArray, List.set_cons_zero, List.set_cons_succ]
    refine wpAnyH_take (i := 9) (oi := ⟨some 14, _, _, _, _, _⟩) (v := ?vrt8) rfl (by kernel_rfl) (by kernel_rfl) (by kernel_rfl) (fun _ _ _ h => h) (Or.inl ⟨by kernel_rfl, ?hyrt8⟩) (by assumption) ?restrt8
    case hyrt8 => (intro W hSw; obtain ⟨c0, c1, c2, c3, c4, c5, c6, c7⟩ := HA.out W hSw; clear hSw; (try dsimp only at hSw); go_simp; try with_reducible rfl)
    case' restrt8 => try simp only [Act.put, List.setIfInBounds_toArray, List.set_cons_zero, List.set_cons_succ]
    refine wpAnyH_take (i := 11) (oi := ⟨some 16, _, _, _, _, _⟩) (v := ?vrt9) rfl (by kernel_rfl) (by kernel_rfl) (by kernel_rfl) (fun _ _ _ h => h) (Or.inl ⟨by kernel_rfl, ?hyrt9⟩) (by assumption) ?restrt9
    case hyrt9 => (intro W hSw; obtain ⟨c0, c1, c2, c3, c4, c5, c6, c7⟩ := HA.out W hSw; clear hSw; (try dsimp only at hSw); go_simp; try with_reducible rfl)
    case' restrt9 => try simp only [Act.put, List.setIfInBounds_toArray, List.set_cons_zero, List.set_cons_succ]
    refine wpAnyH_take (i := 12) (oi := ⟨some 17, _, _, _, _, _⟩) (v := ?vrt10) rfl (by kernel_rfl) (by kernel_rfl) (by kernel_rfl) (fun _ _ _ h => h) (Or.inl ⟨by kernel_rfl, ?hyrt10⟩) (by assumption) ?restrt10
    case hyrt10 => (intro W hSw; obtain ⟨c0, c1, c2, c3, c4, c5, c6, c7⟩ := HB.out W hSw; clear hSw; (try dsimp only at hSw); go_simp; try with_reducible rfl)
    case' restrt10 => try simp only [Act.put, List.setIfInBounds_toArray, List.set_cons_zero, List.set_cons_succ]
    refine wpAnyH_ready (rs := [10]) (by kernel_rfl) (by simp) ?_
    refine AllReadyH.cons (o := ⟨some 15, _, _, _, _, _⟩) rfl (fun K hK => ?_) AllReadyH.nil
    go_simp
    go_at_call 9
    refine (k_hit (x := b) (y := a) hba).mono ?_
    rintro e Wrt3 ⟨rfl, hbWrt3⟩
    have hSWrt3 := hSWrt2.trans (hbWrt3.mono hSWrt2.size)
    try clear hSWrt2
    clear hbWrt3
    go_wp2_with fail
    refine hK.out _ _ hSWrt3 (fun hHeld => ?_)
    clear hK hHeld K
    try simp only [Act.put, List.setIfInBounds_toArray, List.set_cons_zero, List.set_cons_succ]
    refine wpAnyH_ready (rs := [13]) (by kernel_rfl) (by simp) ?_
    refine AllReadyH.cons (o := ⟨some 18, _, _, _, _, _⟩) rfl (fun K hK => ?_) AllReadyH.nil
    go_simp
    go_at_call 10
    refine (k_rhit (x := a) (y := b) hab).mono ?_
    rintro e Wrt4 ⟨rfl, hbWrt4⟩
    have hSWrt4 := hSWrt3.trans (hbWrt4.mono hSWrt3.size)
    try clear hSWrt3
    clear hbWrt4
    go_wp2_with fail
    refine hK.out _ _ hSWrt4 (fun hHeld => ?_)
    clear hK hHeld K
    try simp only [Act.put, List.setIfInBounds_toArray, List.set_cons_zero, List.set_cons_succ]
    refine wpAnyH_take (i := 14) (oi := ⟨some 19, _, _, _, _, _⟩) (v := ?vrt11) rfl (by kernel_rfl) (by kernel_rfl) (by kernel_rfl) (fun _ _ _ h => h) (Or.inl ⟨by kernel_rfl, ?hyrt11⟩) (by assumption) ?restrt11
    case hyrt11 => (intro W hSw; (try dsimp only at hSw); go_simp; try with_reducible rfl)
    case' restrt11 => try simp only [Act.put, List.setIfInBounds_toArray, List.set_cons_zero, List.set_cons_succ]
    refine wpAnyH_take (i := 15) (oi := ⟨some 20, _, _, _, _, _⟩) (v := ?vrt12) rfl (by kernel_rfl) (by kernel_rfl) (by kernel_rfl) (fun _ _ _ h => h) (Or.inl ⟨by kernel_rfl, ?hyrt12⟩) (by assumption) ?restrt12
    case hyrt12 => (intro W hSw; (try dsimp only at hSw); go_simp; try with_reducible rfl)
    case' restrt12 => try simp only [Act.put, List.setIfInBounds_toArray, List.set_cons_zero, List.set_cons_succ]
    refine wpAnyH_take (i := 16) (oi := ⟨some 21, _, _, _, _, _⟩) (v := ?vrt13) rfl (by kernel_rfl) (by kernel_rfl) (by kernel_rfl) (fun _ _ _ h => h) (Or.inl ⟨by kernel_rfl, ?hyrt13⟩) (by assumption) ?restrt13
    case hyrt13 => (intro W hSw; (try dsimp only at hSw); go_simp; try with_reducible rfl)
    case' restrt13 => try simp only [Act.put, List.setIfInBounds_toArray, List.set_cons_zero, List.set_cons_succ]
    refine wpAnyH_take (i := 17) (oi := ⟨some 22, _, _, _, _, _⟩) (v := ?vrt14) rfl (by kernel_rfl) (by kernel_rfl) (by kernel_rfl) (fun _ _ _ h => h) (Or.inl ⟨by kernel_rfl, ?hyrt14⟩) (by assumption) ?restrt14
    case hyrt14 => (intro W hSw; obtain ⟨c0, c1, c2, c3, c4, c5, c6, c7⟩ := HA.out W hSw; clear hSw; (try dsimp only at hSw); go_simp; try with_reducible rfl)
    case' restrt14 => try simp only [Act.put, List.setIfInBounds_toArray, List.set_cons_zero, List.set_cons_succ]
    refine wpAnyH_take (i := 18) (oi := ⟨some 23, _, _, _, _, _⟩) (v := ?vrt15) rfl (by kernel_rfl) (by kernel_rfl) (by kernel_rfl) (fun _ _ _ h => h) (Or.inl ⟨by kernel_rfl, ?hyrt15⟩) (by assumption) ?restrt15
    case hyrt15 => (intro W hSw; obtain ⟨c0, c1, c2, c3, c4, c5, c6, c7⟩ := HA.out W hSw; clear hSw; (try dsimp only at hSw); go_simp; try with_reducible rfl)
    case' restrt15 => try simp only [Act.put, List.setIfInBounds_toArray, List.set_cons_zero, List.set_cons_succ]
    refine wpAnyH_ready (rs := [19]) (by kernel_rfl) (by simp) ?_
    refine AllReadyH.cons (o := ⟨some 24, _, _, _, _, _⟩) rfl (fun K hK => ?_) AllReadyH.nil
    go_simp
    go_at_call 9
    refine (k_hit (x := a) (y := a) (hitB_self a)).mono ?_
    rintro e Wrt5 ⟨rfl, hbWrt5⟩
    have hSWrt5 := hSWrt4.trans (hbWrt5.mono hSWrt4.size)
    try clear hSWrt4
    clear hbWrt5
    go_wp2_with fail
    refine hK.out _ _ hSWrt5 (fun hHeld => ?_)
    clear hK hHeld K
    try simp only [Act.put, List.setIfInBounds_toArray, List.set_cons_zero, List.set_cons_succ]
    refine wpAnyH_take (i := 20) (oi := ⟨some 25, _, _, _, _, _⟩) (v := ?vrt16) rfl (by kernel_rfl) (by kernel_rfl) (by kernel_rfl) (fun _ _ _ h => h) (Or.inl ⟨by kernel_rfl, ?hyrt16⟩) (by assumption) ?restrt16
    case hyrt16 => (intro W hSw; (try dsimp only at hSw); go_simp; try with_reducible rfl)
    case' restrt16 => try simp only [Act.put, List.setIfInBounds_toArray, List.set_cons_zero, List.set_cons_succ]
    refine wpAnyH_take (i := 21) (oi := ⟨some 26, _, _, _, _, _⟩) (v := ?vrt17) rfl (by kernel_rfl) (by kernel_rfl) (by kernel_rfl) (fun _ _ _ h => h) (Or.inl ⟨by kernel_rfl, ?hyrt17⟩) (by assumption) ?restrt17
    case hyrt17 => (intro W hSw; (try dsimp only at hSw); go_simp; try with_reducible rfl)
    case' restrt17 => try simp only [Act.put, List.setIfInBounds_toArray, List.set_cons_zero, List.set_cons_succ]
    refine wpAnyH_ready (rs := [22]) (by kernel_rfl) (by simp) ?_
    refine AllReadyH.cons (o := ⟨some 27, _, _, _, _, _⟩) rfl (fun K hK => ?_) AllReadyH.nil
    go_simp
    go_at_call 11
    refine (law_awake Wrt5).mono ?_
    rintro e Wrt6 ⟨rfl, hbWrt6⟩
    have hSWrt6 := hSWrt5.trans (hbWrt6.mono hSWrt5.size)
    try clear hSWrt5
    clear hbWrt6
    go_wp2_with fail
    refine hK.out _ _ hSWrt6 (fun hHeld => ?_)
    clear hK hHeld K
    try simp only [Act.put, List.setIfInBounds_toArray, List.set_cons_zero, List.set_cons_succ]
    refine wpAnyH_take (i := 23) (oi := ⟨some 28, _, _, _, _, _⟩) (v := ?vrt18) rfl (by kernel_rfl) (by kernel_rfl) (by kernel_rfl) (fun _ _ _ h => h) (Or.inl ⟨by kernel_rfl, ?hyrt18⟩) (by assumption) ?restrt18
    case hyrt18 => (intro W hSw; (try dsimp only at hSw); go_simp; try with_reducible rfl)
    case' restrt18 => try simp only [Act.put, List.setIfInBounds_toArray, List.set_cons_zero, List.set_cons_succ]
    refine wpAnyH_take (i := 24) (oi := ⟨some 4, _, _, _, _, _⟩) (v := ?vrt19) rfl (by kernel_rfl) (by kernel_rfl) (by kernel_rfl) (fun _ _ _ h => h) (Or.inl ⟨by kernel_rfl, ?hyrt19⟩) (by assumption) ?restrt19
    case hyrt19 => (intro W hSw; (try dsimp only at hSw); go_simp; try with_reducible rfl)
    case' restrt19 => try simp only [Act.put, List.setIfInBounds_toArray, List.set_cons_zero, List.set_cons_succ]
    refine wpAnyH_done (by kernel_rfl) ?_ _
    go_wp2
    go_ret
    exact RetV.bool rfl (hw0.trans (hSWrt6.mono hle))
end Go.Proofs
