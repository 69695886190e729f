import Derived.Test.YtoknjlodhohioaaT12
import Derived.Test.YtoknjlodhohioaaU2
set_option linter.unusedVariables false
set_option linter.unusedSimpArgs false
namespace Go.Proofs
open Go.RowKit Go.Proofs.Mp Go.Proofs.Uf

/-- a box's value -/
def aggB (c : Cand) : Value := .agg #[.int .i64 c.x0, .int .i64 c.y0, .int .i64 c.x1, .int .i64 c.y1]
/-- a candidate's value, and its eight cells -/
def aggC (c : Cand) : Value := .agg #[.int .i64 c.f, .int .i64 c.x0, .int .i64 c.y0, .int .i64 c.x1, .int .i64 c.y1, .int .i64 c.ax, .int .i64 c.ay, .int .i64 c.co]
def encC (c : Cand) : List Value := [.int .i64 c.f, .int .i64 c.x0, .int .i64 c.y0, .int .i64 c.x1, .int .i64 c.y1, .int .i64 c.ax, .int .i64 c.ay, .int .i64 c.co]
theorem encC_len (c : Cand) : (encC c).length = 8 := rfl

theorem bw2 (w : World) (o1 o2 : Obj) : Below w.heap.size w ((w.alloc o1).alloc o2) := ((Below.refl _ _).alloc (Nat.le_refl _) _).alloc (by simp) _

set_option maxHeartbeats 1000000 in
theorem geom_overlap (a b : Cand) (w : World) : Calls Try.prog 24 #[aggB a, aggB b] w (RetV w (.bool (overB a b))) := by
  obtain ⟨af, a0, a1, a2, a3, ax, ay, ac⟩ := a
  obtain ⟨bf, b0, b1, b2, b3, bx, byy, bc⟩ := b
  unfold aggB overB
  dsimp only
  by_cases h1 : max a0 b0 < min a2 b2
  · by_cases h2 : max a1 b1 < min a3 b3
    all_goals
      go_enter Try.func24, Try.ntmps24
      go_wp2
      go_ret
      exact RetV.bool (by simp [h1, h2]) (bw2 _ _ _)
  · go_enter Try.func24, Try.ntmps24
    go_wp2
    go_ret
    exact RetV.bool (by simp; intros; omega) (bw2 _ _ _)

set_option maxHeartbeats 2000000 in
theorem ref_overlap (a b : Cand) (w : World) : Calls Try.prog 25 #[aggB a, aggB b] w (RetV w (.bool (overB a b))) := by
  obtain ⟨af, a0, a1, a2, a3, ax, ay, ac⟩ := a
  obtain ⟨bf, b0, b1, b2, b3, bx, byy, bc⟩ := b
  have ov : overB ⟨af, a0, a1, a2, a3, ax, ay, ac⟩ ⟨bf, b0, b1, b2, b3, bx, byy, bc⟩ = decide (a0 < a2 ∧ b0 < b2 ∧ a0 < b2 ∧ b0 < a2 ∧ a1 < a3 ∧ b1 < b3 ∧ a1 < b3 ∧ b1 < a3) := by
    unfold overB
    dsimp only
    rw [← Bool.decide_and, decide_eq_decide]
    omega
  rw [ov]
  clear ov
  unfold aggB
  dsimp only
  by_cases h0 : a0 < a2
  rotate_left
  · go_enter Try.func25, Try.ntmps25
    go_wp2
    go_ret
    exact RetV.bool (by simp; intros; omega) (bw2 _ _ _)
  by_cases h1 : b0 < b2
  rotate_left
  · go_enter Try.func25, Try.ntmps25
    go_wp2
    go_ret
    exact RetV.bool (by simp; intros; omega) (bw2 _ _ _)
  by_cases h2 : a0 < b2
  rotate_left
  · go_enter Try.func25, Try.ntmps25
    go_wp2
    go_ret
    exact RetV.bool (by simp; intros; omega) (bw2 _ _ _)
  by_cases h3 : b0 < a2
  rotate_left
  · go_enter Try.func25, Try.ntmps25
    go_wp2
    go_ret
    exact RetV.bool (by simp; intros; omega) (bw2 _ _ _)
  by_cases h4 : a1 < a3
  rotate_left
  · go_enter Try.func25, Try.ntmps25
    go_wp2
    go_ret
    exact RetV.bool (by simp; intros; omega) (bw2 _ _ _)
  by_cases h5 : b1 < b3
  rotate_left
  · go_enter Try.func25, Try.ntmps25
    go_wp2
    go_ret
    exact RetV.bool (by simp; intros; omega) (bw2 _ _ _)
  by_cases h6 : a1 < b3
  rotate_left
  · go_enter Try.func25, Try.ntmps25
    go_wp2
    go_ret
    exact RetV.bool (by simp; intros; omega) (bw2 _ _ _)
  by_cases h7 : b1 < a3
  rotate_left
  · go_enter Try.func25, Try.ntmps25
    go_wp2
    go_ret
    exact RetV.bool (by simp; intros; omega) (bw2 _ _ _)
  go_enter Try.func25, Try.ntmps25
  go_wp2
  go_ret
  exact RetV.bool (by simp [h0, h1, h2, h3, h4, h5, h6, h7]) (bw2 _ _ _)

set_option maxHeartbeats 1000000 in
theorem ov_hit (a b : Cand) (w : World) : Calls Try.prog 9 #[aggC a, aggC b] w (RetV w (.bool (hitB a b))) := by
  have c0 := fun W => geom_overlap a b W
  have HB := Lib.hid (show hitB a b = (decide (a.f = b.f) || overB a b) from rfl)
  generalize hitB a b = r at *
  generalize overB a b = v at *
  obtain ⟨af, a0, a1, a2, a3, ax, ay, ac⟩ := a
  obtain ⟨bf, b0, b1, b2, b3, bx, byy, bc⟩ := b
  unfold aggB at c0
  unfold aggC
  dsimp only at *
  have C0 := Lib.hid c0
  clear c0
  by_cases h : af = bf
  · go_enter Try.func9, Try.ntmps9
    go_wp2
    go_ret
    exact RetV.bool (by rw [HB.out]; simp [h]) (bw2 _ _ _)
  · go_enter Try.func9, Try.ntmps9
    go_wp2_with fail
    refine (C0.out _).mono ?_
    rintro e w1 ⟨rfl, hb1⟩
    go_wp2
    go_ret
    exact RetV.bool (by rw [HB.out]; simp [h]) ((bw2 _ _ _).trans (hb1.mono (bw2 _ _ _).size))

set_option maxHeartbeats 1000000 in
theorem ref_hit (a b : Cand) (w : World) : Calls Try.prog 10 #[aggC a, aggC b] w (RetV w (.bool (hitB a b))) := by
  have c0 := fun W => ref_overlap a b W
  have HB := Lib.hid (show hitB a b = (decide (a.f = b.f) || overB a b) from rfl)
  generalize hitB a b = r at *
  generalize overB a b = v at *
  obtain ⟨af, a0, a1, a2, a3, ax, ay, ac⟩ := a
  obtain ⟨bf, b0, b1, b2, b3, bx, byy, bc⟩ := b
  unfold aggB at c0
  unfold aggC
  dsimp only at *
  have C0 := Lib.hid c0
  clear c0
  by_cases h : af = bf
  · go_enter Try.func10, Try.ntmps10
    go_wp2
    go_ret
    exact RetV.bool (by rw [HB.out]; simp [h]) (bw2 _ _ _)
  · go_enter Try.func10, Try.ntmps10
    go_wp2_with fail
    refine (C0.out _).mono ?_
    rintro e w1 ⟨rfl, hb1⟩
    go_wp2
    go_ret
    exact RetV.bool (by rw [HB.out]; simp [h]) ((bw2 _ _ _).trans (hb1.mono (bw2 _ _ _).size))
end Go.Proofs
