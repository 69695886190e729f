/- Points: on a segment; before; what two segments have in common. -/
import Derived.Test.YtafaojmkbbhjmaaG2
import Derived.Lib.MinMax
set_option linter.unusedVariables false
set_option linter.unusedSimpArgs false
namespace Go.Proofs
open Go.RowKit Go.Proofs.Mp

def inBx (a b p : Pt) : Prop := min a.1 b.1 ≤ p.1 ∧ p.1 ≤ max a.1 b.1 ∧ min a.2 b.2 ≤ p.2 ∧ p.2 ≤ max a.2 b.2
instance (a b p : Pt) : Decidable (inBx a b p) := by unfold inBx; infer_instance
def onB (a b p : Pt) : Bool := decide (tw a b p = 0 ∧ inBx a b p)

set_option maxHeartbeats 2000000 in
theorem ref_on (a b c : Pt) (w : World) (ha : Nr a) (hb : Nr b) (hc : Nr c) : Calls Try.prog 43 #[aggP a, aggP b, aggP c] w (RetV w (.bool (onB a b c))) := by
  have c0 := Lib.hid fun W => ref_side a b c W ha hb hc
  have hs : (tw a b c = 0 ∧ sd a b c = 0) ∨ (tw a b c ≠ 0 ∧ sd a b c ≠ 0) := by
    have := sg_cases (tw a b c)
    have he : sd a b c = sg (tw a b c) := rfl
    rw [he]
    omega
  have hr : onB a b c = decide (tw a b c = 0 ∧ inBx a b c) := rfl
  generalize onB a b c = r at *
  generalize tw a b c = t at *
  generalize sd a b c = s at *
  clear ha hb hc
  obtain ⟨a1, a2⟩ := a
  obtain ⟨b1, b2⟩ := b
  obtain ⟨c1, c2⟩ := c
  unfold aggP at *
  dsimp only at *
  rcases hs with ⟨ht, rfl⟩ | ⟨ht, hs⟩
  rotate_left
  · have HR := Lib.hid (hr.trans (decide_eq_false fun h => ht h.1))
    clear hr ht
    go_enter Try.func43, Try.ntmps43
    go_wp2_with fail
    refine (c0.out _).mono ?_
    rintro e w1 ⟨rfl, hb1⟩
    obtain ⟨-, -, -, -, -, -, h0⟩ := box3 hb1
    go_wp2
    go_ret
    exact RetV.bool HR.out.symm h0
  have HB : Hid (r = decide (inBx (a1, a2) (b1, b2) (c1, c2))) := Lib.hid (by rw [hr]; simp [ht])
  clear hr ht
  by_cases h0 : min a1 b1 ≤ c1
  rotate_left
  · have HR := Lib.hid (HB.out.trans (decide_eq_false (by unfold inBx; dsimp only; omega)))
    clear HB
    go_enter Try.func43, Try.ntmps43
    go_wp2_with fail
    refine (c0.out _).mono ?_
    rintro e w1 ⟨rfl, hb1⟩
    obtain ⟨k1, k2, k3, k4, k5, k6, h0⟩ := box3 hb1
    clear hb1
    go_wp2
    go_ret
    exact RetV.bool (by first | exact HR.out.symm | exact (decide_eq_false (by omega)).trans HR.out.symm) h0
  by_cases h1 : c1 ≤ max a1 b1
  rotate_left
  · have HR := Lib.hid (HB.out.trans (decide_eq_false (by unfold inBx; dsimp only; omega)))
    clear HB
    go_enter Try.func43, Try.ntmps43
    go_wp2_with fail
    refine (c0.out _).mono ?_
    rintro e w1 ⟨rfl, hb1⟩
    obtain ⟨k1, k2, k3, k4, k5, k6, h0⟩ := box3 hb1
    clear hb1
    go_wp2
    go_ret
    exact RetV.bool (by first | exact HR.out.symm | exact (decide_eq_false (by omega)).trans HR.out.symm) h0
  by_cases h2 : min a2 b2 ≤ c2
  rotate_left
  · have HR := Lib.hid (HB.out.trans (decide_eq_false (by unfold inBx; dsimp only; omega)))
    clear HB
    go_enter Try.func43, Try.ntmps43
    go_wp2_with fail
    refine (c0.out _).mono ?_
    rintro e w1 ⟨rfl, hb1⟩
    obtain ⟨k1, k2, k3, k4, k5, k6, h0⟩ := box3 hb1
    clear hb1
    go_wp2
    go_ret
    exact RetV.bool (by first | exact HR.out.symm | exact (decide_eq_false (by omega)).trans HR.out.symm) h0
  by_cases h3 : c2 ≤ max a2 b2
  rotate_left
  · have HR := Lib.hid (HB.out.trans (decide_eq_false (by unfold inBx; dsimp only; omega)))
    clear HB
    go_enter Try.func43, Try.ntmps43
    go_wp2_with fail
    refine (c0.out _).mono ?_
    rintro e w1 ⟨rfl, hb1⟩
    obtain ⟨k1, k2, k3, k4, k5, k6, h0⟩ := box3 hb1
    clear hb1
    go_wp2
    go_ret
    exact RetV.bool (by first | exact HR.out.symm | exact (decide_eq_false (by omega)).trans HR.out.symm) h0
  have HR := Lib.hid (HB.out.trans (decide_eq_true (by unfold inBx; dsimp only; omega)))
  clear HB
  go_enter Try.func43, Try.ntmps43
  go_wp2_with fail
  refine (c0.out _).mono ?_
  rintro e w1 ⟨rfl, hb1⟩
  obtain ⟨k1, k2, k3, k4, k5, k6, h0⟩ := box3 hb1
  clear hb1
  go_wp2
  go_ret
  exact RetV.bool (by first | exact HR.out.symm | exact (decide_eq_false (by omega)).trans HR.out.symm) h0

set_option maxHeartbeats 2000000 in
theorem geom_on (a b c : Pt) (w : World) (ha : Nr a) (hb : Nr b) (hc : Nr c) : Calls Try.prog 40 #[aggP a, aggP b, aggP c] w (RetV w (.bool (onB a b c))) := by
  have c0 := Lib.hid fun W => geom_tw a b c W ha hb hc
  have cn := Lib.hid fun W n hn cap => near3 a b c ha hb hc W n hn cap
  have hr : onB a b c = decide (tw a b c = 0 ∧ inBx a b c) := rfl
  generalize onB a b c = r at *
  generalize tw a b c = t at *
  clear ha hb hc
  obtain ⟨a1, a2⟩ := a
  obtain ⟨b1, b2⟩ := b
  obtain ⟨c1, c2⟩ := c
  unfold aggP at *
  dsimp only at *
  by_cases ht : t = 0
  rotate_left
  · have HR := Lib.hid (hr.trans (decide_eq_false fun h => ht h.1))
    clear hr
    go_enter Try.func40, Try.ntmps40
    go_wp2_with fail
    refine (cn.out _ _ (by simp) _).mono ?_
    rintro e w1 ⟨rfl, hb1⟩
    have hb2 := below_lit hb1
    clear hb1
    obtain ⟨k1, k2, k3, k4, k5, k6, h0⟩ := box3 hb2
    clear hb2
    go_wp2_with fail
    refine (c0.out _).mono ?_
    rintro e w2 ⟨rfl, hb1⟩
    have h1 := below_step h0 hb1
    go_wp2
    go_ret
    exact RetV.bool HR.out.symm h1
  have HB : Hid (r = decide (inBx (a1, a2) (b1, b2) (c1, c2))) := Lib.hid (by rw [hr]; simp [ht])
  clear hr
  subst ht
  by_cases h0 : min a1 b1 ≤ c1
  rotate_left
  · have HR := Lib.hid (HB.out.trans (decide_eq_false (by unfold inBx; dsimp only; omega)))
    clear HB
    go_enter Try.func40, Try.ntmps40
    go_wp2_with fail
    refine (cn.out _ _ (by simp) _).mono ?_
    rintro e w1 ⟨rfl, hb1⟩
    have hb2 := below_lit hb1
    clear hb1
    obtain ⟨k1, k2, k3, k4, k5, k6, h00⟩ := box3 hb2
    go_wp2_with fail
    refine (c0.out _).mono ?_
    rintro e w2 ⟨rfl, hb1⟩
    clear k1 k2 k3 k4 k5 k6 h00
    obtain ⟨k1, k2, k3, k4, k5, k6, h0⟩ := box3 (below_step hb2 hb1)
    clear hb2 hb1
    go_wp2
    go_ret
    exact RetV.bool (by first | exact HR.out.symm | exact (decide_eq_false (by omega)).trans HR.out.symm) h0
  by_cases h1 : c1 ≤ max a1 b1
  rotate_left
  · have HR := Lib.hid (HB.out.trans (decide_eq_false (by unfold inBx; dsimp only; omega)))
    clear HB
    go_enter Try.func40, Try.ntmps40
    go_wp2_with fail
    refine (cn.out _ _ (by simp) _).mono ?_
    rintro e w1 ⟨rfl, hb1⟩
    have hb2 := below_lit hb1
    clear hb1
    obtain ⟨k1, k2, k3, k4, k5, k6, h00⟩ := box3 hb2
    go_wp2_with fail
    refine (c0.out _).mono ?_
    rintro e w2 ⟨rfl, hb1⟩
    clear k1 k2 k3 k4 k5 k6 h00
    obtain ⟨k1, k2, k3, k4, k5, k6, h0⟩ := box3 (below_step hb2 hb1)
    clear hb2 hb1
    go_wp2
    go_ret
    exact RetV.bool (by first | exact HR.out.symm | exact (decide_eq_false (by omega)).trans HR.out.symm) h0
  by_cases h2 : min a2 b2 ≤ c2
  rotate_left
  · have HR := Lib.hid (HB.out.trans (decide_eq_false (by unfold inBx; dsimp only; omega)))
    clear HB
    go_enter Try.func40, Try.ntmps40
    go_wp2_with fail
    refine (cn.out _ _ (by simp) _).mono ?_
    rintro e w1 ⟨rfl, hb1⟩
    have hb2 := below_lit hb1
    clear hb1
    obtain ⟨k1, k2, k3, k4, k5, k6, h00⟩ := box3 hb2
    go_wp2_with fail
    refine (c0.out _).mono ?_
    rintro e w2 ⟨rfl, hb1⟩
    clear k1 k2 k3 k4 k5 k6 h00
    obtain ⟨k1, k2, k3, k4, k5, k6, h0⟩ := box3 (below_step hb2 hb1)
    clear hb2 hb1
    go_wp2
    go_ret
    exact RetV.bool (by first | exact HR.out.symm | exact (decide_eq_false (by omega)).trans HR.out.symm) h0
  by_cases h3 : c2 ≤ max a2 b2
  rotate_left
  · have HR := Lib.hid (HB.out.trans (decide_eq_false (by unfold inBx; dsimp only; omega)))
    clear HB
    go_enter Try.func40, Try.ntmps40
    go_wp2_with fail
    refine (cn.out _ _ (by simp) _).mono ?_
    rintro e w1 ⟨rfl, hb1⟩
    have hb2 := below_lit hb1
    clear hb1
    obtain ⟨k1, k2, k3, k4, k5, k6, h00⟩ := box3 hb2
    go_wp2_with fail
    refine (c0.out _).mono ?_
    rintro e w2 ⟨rfl, hb1⟩
    clear k1 k2 k3 k4 k5 k6 h00
    obtain ⟨k1, k2, k3, k4, k5, k6, h0⟩ := box3 (below_step hb2 hb1)
    clear hb2 hb1
    go_wp2
    go_ret
    exact RetV.bool (by first | exact HR.out.symm | exact (decide_eq_false (by omega)).trans HR.out.symm) h0
  have HR := Lib.hid (HB.out.trans (decide_eq_true (by unfold inBx; dsimp only; omega)))
  clear HB
  go_enter Try.func40, Try.ntmps40
  go_wp2_with fail
  refine (cn.out _ _ (by simp) _).mono ?_
  rintro e w1 ⟨rfl, hb1⟩
  have hb2 := below_lit hb1
  clear hb1
  obtain ⟨k1, k2, k3, k4, k5, k6, h00⟩ := box3 hb2
  go_wp2_with fail
  refine (c0.out _).mono ?_
  rintro e w2 ⟨rfl, hb1⟩
  clear k1 k2 k3 k4 k5 k6 h00
  obtain ⟨k1, k2, k3, k4, k5, k6, h0⟩ := box3 (below_step hb2 hb1)
  clear hb2 hb1
  go_wp2
  go_ret
  exact RetV.bool (by first | exact HR.out.symm | exact (decide_eq_false (by omega)).trans HR.out.symm) h0

def befB (a b : Pt) : Bool := decide (a.1 < b.1 ∨ (a.1 = b.1 ∧ a.2 < b.2))
set_option maxHeartbeats 1000000 in
theorem geom_before (a b : Pt) (w : World) : Calls Try.prog 66 #[aggP a, aggP b] w (RetV w (.bool (befB a b))) := by
  have hr : befB a b = decide (a.1 < b.1 ∨ (a.1 = b.1 ∧ a.2 < b.2)) := rfl
  generalize befB a b = r at *
  obtain ⟨a1, a2⟩ := a
  obtain ⟨b1, b2⟩ := b
  unfold aggP
  dsimp only at *
  have HR := Lib.hid hr
  clear hr
  by_cases h0 : a1 < b1
  · go_enter Try.func66, Try.ntmps66
    go_wp2
    go_ret
    exact RetV.bool (by rw [HR.out]; symm; apply decide_eq_true; omega) ((bw1 _ _).trans ((bw1 _ _).mono (bw1 _ _).size))
  by_cases h1 : a1 = b1
  rotate_left
  · go_enter Try.func66, Try.ntmps66
    go_wp2
    go_ret
    exact RetV.bool (by rw [HR.out]; symm; apply decide_eq_false; omega) ((bw1 _ _).trans ((bw1 _ _).mono (bw1 _ _).size))
  subst h1
  by_cases h2 : a2 < b2
  · go_enter Try.func66, Try.ntmps66
    go_wp2
    go_ret
    exact RetV.bool (by rw [HR.out]; symm; first | (apply decide_eq_true; omega) | (simp; omega)) ((bw1 _ _).trans ((bw1 _ _).mono (bw1 _ _).size))
  · go_enter Try.func66, Try.ntmps66
    go_wp2
    go_ret
    exact RetV.bool (by rw [HR.out]; symm; first | (apply decide_eq_false; omega) | (simp; omega)) ((bw1 _ _).trans ((bw1 _ _).mono (bw1 _ _).size))
end Go.Proofs
