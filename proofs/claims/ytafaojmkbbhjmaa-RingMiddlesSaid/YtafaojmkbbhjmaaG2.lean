/- Points: sides, segments. -/
import Derived.Test.YtafaojmkbbhjmaaG1
set_option linter.unusedVariables false
set_option linter.unusedSimpArgs false
namespace Go.Proofs
open Go.RowKit Go.Proofs.Mp

def ptsC (zs : List Pt) : Array Value := (zs.flatMap encR).toArray
theorem lit_rdAt (W : World) (cs : Array Value) (t : TypeId) (zs : List Pt) (h : cs = (zs.flatMap encR).toArray) (n : Nat) (hn : n = W.heap.size) : RdR (W.alloc (.cells cs t)) (some ⟨n, 0, none⟩) zs := by
  subst h; subst hn
  exact Row.rd encR_len (t := t) (heap_alloc_new W _)
theorem allNr3 {a b c : Pt} (ha : Nr a) (hb : Nr b) (hc : Nr c) : allNr [a, b, c] := by
  intro j hj
  match j with
  | 0 => exact ha
  | 1 => exact hb
  | 2 => exact hc
  | j + 3 => simp at hj; omega
theorem allNr4 {a b c d : Pt} (ha : Nr a) (hb : Nr b) (hc : Nr c) (hd : Nr d) : allNr [a, b, c, d] := by
  intro j hj
  match j with
  | 0 => exact ha
  | 1 => exact hb
  | 2 => exact hc
  | 3 => exact hd
  | j + 4 => simp at hj; omega
/-- near of three points that have just been laid down -/
theorem near3 (a b c : Pt) (ha : Nr a) (hb : Nr b) (hc : Nr c) (W : World) (n : Nat) (hn : n = W.heap.size) (cap : Nat) : Calls Try.prog 41 #[.slice (some ⟨n, 0, none⟩) 3 cap] (W.alloc (.cells #[.int .i64 a.1, .int .i64 a.2, .int .i64 b.1, .int .i64 b.2, .int .i64 c.1, .int .i64 c.2] 32)) (RetV (W.alloc (.cells #[.int .i64 a.1, .int .i64 a.2, .int .i64 b.1, .int .i64 b.2, .int .i64 c.1, .int .i64 c.2] 32)) (.bool true)) :=
  geom_near _ cap [a, b, c] _ (by simp) (allNr3 ha hb hc) (lit_rdAt W _ 32 [a, b, c] rfl n hn)
theorem near4 (a b c d : Pt) (ha : Nr a) (hb : Nr b) (hc : Nr c) (hd : Nr d) (W : World) (n : Nat) (hn : n = W.heap.size) (cap : Nat) : Calls Try.prog 41 #[.slice (some ⟨n, 0, none⟩) 4 cap] (W.alloc (.cells #[.int .i64 a.1, .int .i64 a.2, .int .i64 b.1, .int .i64 b.2, .int .i64 c.1, .int .i64 c.2, .int .i64 d.1, .int .i64 d.2] 32)) (RetV (W.alloc (.cells #[.int .i64 a.1, .int .i64 a.2, .int .i64 b.1, .int .i64 b.2, .int .i64 c.1, .int .i64 c.2, .int .i64 d.1, .int .i64 d.2] 32)) (.bool true)) :=
  geom_near _ cap [a, b, c, d] _ (by simp) (allNr4 ha hb hc hd) (lit_rdAt W _ 32 [a, b, c, d] rfl n hn)

theorem Mp.below_lit {X w1 : World} {o : Obj} (hb : Below (X.alloc o).heap.size (X.alloc o) w1) : Below X.heap.size X w1 := (bw1 _ _).trans (hb.mono (bw1 _ _).size)
theorem Mp.below_step {X w1 w2 : World} (h : Below X.heap.size X w1) (h2 : Below w1.heap.size w1 w2) : Below X.heap.size X w2 := h.trans (h2.mono h.size)
theorem alloc2_cells (w : World) (x y : Value) (t : TypeId) : (w.alloc (.cells #[x, y] t)).cell? ⟨w.heap.size, 0, none⟩ = some x ∧ (w.alloc (.cells #[x, y] t)).cell? ⟨w.heap.size, 1, none⟩ = some y := by
  have h := heap_alloc_new w (.cells #[x, y] t)
  constructor
  · rw [cell_of_row _ _ _ _ _ _ h]; rfl
  · rw [cell_of_row _ _ _ _ _ _ h]; rfl
/-- a box of two cells, later -/
theorem box_at (w W : World) (x y : Value) (t : TypeId) (hb : Below (w.heap.size + 1) (w.alloc (.cells #[x, y] t)) W) : W.cell? ⟨w.heap.size, 0, none⟩ = some x ∧ W.cell? ⟨w.heap.size, 1, none⟩ = some y := by
  obtain ⟨h1, h2⟩ := alloc2_cells w x y t
  exact ⟨(hb.cell (p := ⟨w.heap.size, 0, none⟩) (by simp)).trans h1, (hb.cell (p := ⟨w.heap.size, 1, none⟩) (by simp)).trans h2⟩
/-- three boxes, later -/
theorem box3 {w W : World} {a1 a2 b1 b2 c1 c2 : Value} (hb : Below (((w.alloc (.cells #[a1, a2] 32)).alloc (.cells #[b1, b2] 32)).alloc (.cells #[c1, c2] 32)).heap.size (((w.alloc (.cells #[a1, a2] 32)).alloc (.cells #[b1, b2] 32)).alloc (.cells #[c1, c2] 32)) W) :
    W.cell? ⟨w.heap.size, 0, none⟩ = some a1 ∧ W.cell? ⟨w.heap.size, 1, none⟩ = some a2 ∧ W.cell? ⟨w.heap.size + 1, 0, none⟩ = some b1 ∧ W.cell? ⟨w.heap.size + 1, 1, none⟩ = some b2 ∧
    W.cell? ⟨w.heap.size + 1 + 1, 0, none⟩ = some c1 ∧ W.cell? ⟨w.heap.size + 1 + 1, 1, none⟩ = some c2 ∧ Below w.heap.size w W := by
  have e3 := bw1 ((w.alloc (.cells #[a1, a2] 32)).alloc (.cells #[b1, b2] 32)) (.cells #[c1, c2] 32)
  have e2 := bw1 (w.alloc (.cells #[a1, a2] 32)) (.cells #[b1, b2] 32)
  have e1 := bw1 w (.cells #[a1, a2] 32)
  have s1 : (w.alloc (.cells #[a1, a2] 32)).heap.size = w.heap.size + 1 := by simp
  have s2 : ((w.alloc (.cells #[a1, a2] 32)).alloc (.cells #[b1, b2] 32)).heap.size = w.heap.size + 1 + 1 := by simp
  have s3 : (((w.alloc (.cells #[a1, a2] 32)).alloc (.cells #[b1, b2] 32)).alloc (.cells #[c1, c2] 32)).heap.size = w.heap.size + 1 + 1 + 1 := by simp
  rw [s3] at hb
  rw [s2] at e3; rw [s1] at e2
  have h3 := hb
  have h2 := e3.trans (hb.mono (by omega))
  have h1 := e2.trans (h2.mono (by omega))
  have h0 := e1.trans (h1.mono (by omega))
  obtain ⟨k1, k2⟩ := box_at w W _ _ _ h1
  obtain ⟨k3, k4⟩ := box_at (w.alloc (.cells #[a1, a2] 32)) W b1 b2 32 (by rw [s1]; exact h2)
  obtain ⟨k5, k6⟩ := box_at ((w.alloc (.cells #[a1, a2] 32)).alloc (.cells #[b1, b2] 32)) W c1 c2 32 (by rw [s2]; exact h3)
  rw [s1] at k3 k4; rw [s2] at k5 k6
  exact ⟨k1, k2, k3, k4, k5, k6, h0⟩
/-- four boxes, later -/
theorem box4 {w W : World} {a1 a2 b1 b2 c1 c2 d1 d2 : Value} (hb : Below ((((w.alloc (.cells #[a1, a2] 32)).alloc (.cells #[b1, b2] 32)).alloc (.cells #[c1, c2] 32)).alloc (.cells #[d1, d2] 32)).heap.size ((((w.alloc (.cells #[a1, a2] 32)).alloc (.cells #[b1, b2] 32)).alloc (.cells #[c1, c2] 32)).alloc (.cells #[d1, d2] 32)) W) :
    W.cell? ⟨w.heap.size, 0, none⟩ = some a1 ∧ W.cell? ⟨w.heap.size, 1, none⟩ = some a2 ∧ W.cell? ⟨w.heap.size + 1, 0, none⟩ = some b1 ∧ W.cell? ⟨w.heap.size + 1, 1, none⟩ = some b2 ∧
    W.cell? ⟨w.heap.size + 1 + 1, 0, none⟩ = some c1 ∧ W.cell? ⟨w.heap.size + 1 + 1, 1, none⟩ = some c2 ∧ W.cell? ⟨w.heap.size + 1 + 1 + 1, 0, none⟩ = some d1 ∧ W.cell? ⟨w.heap.size + 1 + 1 + 1, 1, none⟩ = some d2 ∧ Below w.heap.size w W := by
  have e4 := below_lit hb
  obtain ⟨k1, k2, k3, k4, k5, k6, h0⟩ := box3 e4
  have s3 : (((w.alloc (.cells #[a1, a2] 32)).alloc (.cells #[b1, b2] 32)).alloc (.cells #[c1, c2] 32)).heap.size = w.heap.size + 1 + 1 + 1 := by simp
  have s4 : ((((w.alloc (.cells #[a1, a2] 32)).alloc (.cells #[b1, b2] 32)).alloc (.cells #[c1, c2] 32)).alloc (.cells #[d1, d2] 32)).heap.size = w.heap.size + 1 + 1 + 1 + 1 := by simp
  obtain ⟨k7, k8⟩ := box_at (((w.alloc (.cells #[a1, a2] 32)).alloc (.cells #[b1, b2] 32)).alloc (.cells #[c1, c2] 32)) W d1 d2 32 (by rw [s3, ← s4]; exact hb)
  rw [s3] at k7 k8
  exact ⟨k1, k2, k3, k4, k5, k6, k7, k8, h0⟩

set_option maxHeartbeats 1000000 in
theorem geom_Twice (a b c : Pt) (w : World) (ha : Nr a) (hb : Nr b) (hc : Nr c) : Calls Try.prog 23 #[aggP a, aggP b, aggP c] w (RetV w (.int .i64 (tw a b c))) := by
  have c0 := Lib.hid fun W => geom_tw a b c W ha hb hc
  have c1 := Lib.hid fun W n hn cap => near3 a b c ha hb hc W n hn cap
  generalize tw a b c = t at *
  clear ha hb hc
  obtain ⟨a1, a2⟩ := a
  obtain ⟨b1, b2⟩ := b
  obtain ⟨c1', c2⟩ := c
  unfold aggP at *
  dsimp only at *
  go_enter Try.func23, Try.ntmps23
  go_wp2_with fail
  refine (c1.out _ _ (by simp) _).mono ?_
  rintro e w1 ⟨rfl, hb1⟩
  have hb2 := below_lit hb1
  clear hb1
  obtain ⟨k1, k2, k3, k4, k5, k6, h0⟩ := box3 hb2
  clear hb2
  go_wp2_with fail
  refine (c0.out _).mono ?_
  rintro e w2 ⟨rfl, hb1⟩
  go_wp2
  go_ret
  exact RetV.int rfl (below_step h0 hb1)

set_option maxHeartbeats 1000000 in
theorem geom_Side (a b c : Pt) (w : World) (ha : Nr a) (hb : Nr b) (hc : Nr c) : Calls Try.prog 22 #[aggP a, aggP b, aggP c] w (RetV w (.int .i64 (sd a b c))) := by
  have c0 := Lib.hid fun W => geom_Twice a b c W ha hb hc
  have hs := sg_cases (tw a b c)
  have he : sd a b c = sg (tw a b c) := rfl
  rw [he]
  clear he
  generalize tw a b c = t at *
  clear ha hb hc
  obtain ⟨a1, a2⟩ := a
  obtain ⟨b1, b2⟩ := b
  obtain ⟨c1', c2⟩ := c
  unfold aggP at *
  dsimp only at *
  rcases hs with ⟨h1, h2⟩ | ⟨h1, h2⟩ | ⟨h1, h2⟩
  all_goals
    rw [h2]
    clear h2
    go_enter Try.func22, Try.ntmps22
    go_wp2_with fail
    refine (c0.out _).mono ?_
    rintro e w1 ⟨rfl, hb1⟩
    obtain ⟨-, -, -, -, -, -, h0⟩ := box3 hb1
    go_wp2
    go_ret
    exact RetV.int rfl h0
end Go.Proofs
