/- The law Chains, walked. -/
import Derived.Test.YtnckglojbhlekaaW4
set_option linter.unusedVariables false
set_option linter.unusedSimpArgs false
namespace Go.Proofs
open Go.RowKit Go.Proofs.Mp

theorem cnt_any (l : List Bx) (X Y : Int) : (l.any fun b => coverB b X Y) = decide (0 < cnt l X Y) := by
  unfold cnt
  rw [Bool.eq_iff_iff, decide_eq_true_iff, List.countP_pos_iff, List.any_eq_true]
theorem chain_E {a b c : P4} (h : bxE a b = 0) (g : bxE b c = 0) : bxE a c = 0 := by
  obtain ⟨W, H, e1, e2, _, _, _, a0, _, f1, f2, _⟩ := bx_exact h
  obtain ⟨W', H', e1', e2', _, _, _, _, c0, g1, g2, _⟩ := bx_exact g
  exact bxE_z a0 c0 ⟨by omega, by omega⟩
theorem chain_any {a b c : P4} (h : bxE a b = 0) (g : bxE b c = 0) (X Y : Int) (hn : ((bxL a c).any fun q => coverB q X Y) = true) :
    ((bxL a b).any fun q => coverB q X Y) = true ∨ ((bxL b c).any fun q => coverB q X Y) = true := by
  obtain ⟨W, H, e1, e2, _, _, _, a0, _, f1, f2, _, _, _, hab⟩ := bx_exact h
  obtain ⟨W2, H2, e1', e2', _, _, _, _, c0, g1, g2, _, _, _, hbc⟩ := bx_exact g
  obtain ⟨W3, H3, e1'', e2'', _, _, _, _, _, _, _, _, _, _, hac⟩ := bx_exact (chain_E h g)
  have hW2 : W2 = W := by omega
  have hH2 : H2 = H := by omega
  have hW3 : W3 = W := by omega
  have hH3 : H3 = H := by omega
  subst hW2 hH2 hW3 hH3
  rw [cnt_any, decide_eq_true_iff] at hn
  rw [cnt_any, cnt_any, decide_eq_true_iff, decide_eq_true_iff]
  rw [hac] at hn
  rw [hab, hbc]
  by_cases hc : 0 ≤ X ∧ X < (W3 : Int) ∧ 0 ≤ Y ∧ Y < (H3 : Int) ∧ (colL a)[Y.toNat * W3 + X.toNat]! ≠ (colL c)[Y.toNat * W3 + X.toNat]!
  · obtain ⟨h1, h2, h3, h4, h5⟩ := hc
    by_cases h6 : (colL a)[Y.toNat * W3 + X.toNat]! = (colL b)[Y.toNat * W3 + X.toNat]!
    · right
      rw [if_pos ⟨h1, h2, h3, h4, fun h7 => h5 (h6.trans h7)⟩]; omega
    · left
      rw [if_pos ⟨h1, h2, h3, h4, h6⟩]; omega
  · rw [if_neg hc] at hn; omega
theorem bxR_z {a b : P4} (h : bxE a b = 0) : bxR a b = bxL a b := by unfold bxR; rw [if_pos h]
set_option maxRecDepth 100000 in
set_option maxHeartbeats 4000000 in
theorem law_chains (x y z : P4) (w : World) (hfx : Few4 x 9223372036854775807) (hfy : Few4 y 9223372036854775807) (hfz : Few4 z 9223372036854775807) (hRx : Rd4 w x) (hRy : Rd4 w y) (hRz : Rd4 w z) : Calls Try.prog 8 #[agg4 x, agg4 y, agg4 z] w (RetV w (.bool true)) := by
  have k0 : Below w.heap.size w (((w.alloc (.cells #[.int .i64 x.p0.w, .int .i64 x.p0.h, .slice x.p0.a x.p0.v.length x.p0.c, .int .i64 x.p1.w, .int .i64 x.p1.h, .slice x.p1.a x.p1.v.length x.p1.c, .int .i64 x.p2.w, .int .i64 x.p2.h, .slice x.p2.a x.p2.v.length x.p2.c, .int .i64 x.p3.w, .int .i64 x.p3.h, .slice x.p3.a x.p3.v.length x.p3.c] 25)).alloc (.cells #[.int .i64 y.p0.w, .int .i64 y.p0.h, .slice y.p0.a y.p0.v.length y.p0.c, .int .i64 y.p1.w, .int .i64 y.p1.h, .slice y.p1.a y.p1.v.length y.p1.c, .int .i64 y.p2.w, .int .i64 y.p2.h, .slice y.p2.a y.p2.v.length y.p2.c, .int .i64 y.p3.w, .int .i64 y.p3.h, .slice y.p3.a y.p3.v.length y.p3.c] 25)).alloc (.cells #[.int .i64 z.p0.w, .int .i64 z.p0.h, .slice z.p0.a z.p0.v.length z.p0.c, .int .i64 z.p1.w, .int .i64 z.p1.h, .slice z.p1.a z.p1.v.length z.p1.c, .int .i64 z.p2.w, .int .i64 z.p2.h, .slice z.p2.a z.p2.v.length z.p2.c, .int .i64 z.p3.w, .int .i64 z.p3.h, .slice z.p3.a z.p3.v.length z.p3.c] 25)) := ((bw1 _ _).alloc (by simp) _).alloc (by simp; omega) _
  have Rx : Mp.Row (((w.alloc (.cells #[.int .i64 x.p0.w, .int .i64 x.p0.h, .slice x.p0.a x.p0.v.length x.p0.c, .int .i64 x.p1.w, .int .i64 x.p1.h, .slice x.p1.a x.p1.v.length x.p1.c, .int .i64 x.p2.w, .int .i64 x.p2.h, .slice x.p2.a x.p2.v.length x.p2.c, .int .i64 x.p3.w, .int .i64 x.p3.h, .slice x.p3.a x.p3.v.length x.p3.c] 25)).alloc (.cells #[.int .i64 y.p0.w, .int .i64 y.p0.h, .slice y.p0.a y.p0.v.length y.p0.c, .int .i64 y.p1.w, .int .i64 y.p1.h, .slice y.p1.a y.p1.v.length y.p1.c, .int .i64 y.p2.w, .int .i64 y.p2.h, .slice y.p2.a y.p2.v.length y.p2.c, .int .i64 y.p3.w, .int .i64 y.p3.h, .slice y.p3.a y.p3.v.length y.p3.c] 25)).alloc (.cells #[.int .i64 z.p0.w, .int .i64 z.p0.h, .slice z.p0.a z.p0.v.length z.p0.c, .int .i64 z.p1.w, .int .i64 z.p1.h, .slice z.p1.a z.p1.v.length z.p1.c, .int .i64 z.p2.w, .int .i64 z.p2.h, .slice z.p2.a z.p2.v.length z.p2.c, .int .i64 z.p3.w, .int .i64 z.p3.h, .slice z.p3.a z.p3.v.length z.p3.c] 25)) w.heap.size 25 (cells4 x) := ((Row.newAt rfl rfl).alloc _).alloc _
  have hRx0 := hRx.below k0
  have Ry : Mp.Row (((w.alloc (.cells #[.int .i64 x.p0.w, .int .i64 x.p0.h, .slice x.p0.a x.p0.v.length x.p0.c, .int .i64 x.p1.w, .int .i64 x.p1.h, .slice x.p1.a x.p1.v.length x.p1.c, .int .i64 x.p2.w, .int .i64 x.p2.h, .slice x.p2.a x.p2.v.length x.p2.c, .int .i64 x.p3.w, .int .i64 x.p3.h, .slice x.p3.a x.p3.v.length x.p3.c] 25)).alloc (.cells #[.int .i64 y.p0.w, .int .i64 y.p0.h, .slice y.p0.a y.p0.v.length y.p0.c, .int .i64 y.p1.w, .int .i64 y.p1.h, .slice y.p1.a y.p1.v.length y.p1.c, .int .i64 y.p2.w, .int .i64 y.p2.h, .slice y.p2.a y.p2.v.length y.p2.c, .int .i64 y.p3.w, .int .i64 y.p3.h, .slice y.p3.a y.p3.v.length y.p3.c] 25)).alloc (.cells #[.int .i64 z.p0.w, .int .i64 z.p0.h, .slice z.p0.a z.p0.v.length z.p0.c, .int .i64 z.p1.w, .int .i64 z.p1.h, .slice z.p1.a z.p1.v.length z.p1.c, .int .i64 z.p2.w, .int .i64 z.p2.h, .slice z.p2.a z.p2.v.length z.p2.c, .int .i64 z.p3.w, .int .i64 z.p3.h, .slice z.p3.a z.p3.v.length z.p3.c] 25)) (w.heap.size + 1) 25 (cells4 y) := (Row.newAt (by simp) rfl).alloc _
  have hRy0 := hRy.below k0
  have Rz : Mp.Row (((w.alloc (.cells #[.int .i64 x.p0.w, .int .i64 x.p0.h, .slice x.p0.a x.p0.v.length x.p0.c, .int .i64 x.p1.w, .int .i64 x.p1.h, .slice x.p1.a x.p1.v.length x.p1.c, .int .i64 x.p2.w, .int .i64 x.p2.h, .slice x.p2.a x.p2.v.length x.p2.c, .int .i64 x.p3.w, .int .i64 x.p3.h, .slice x.p3.a x.p3.v.length x.p3.c] 25)).alloc (.cells #[.int .i64 y.p0.w, .int .i64 y.p0.h, .slice y.p0.a y.p0.v.length y.p0.c, .int .i64 y.p1.w, .int .i64 y.p1.h, .slice y.p1.a y.p1.v.length y.p1.c, .int .i64 y.p2.w, .int .i64 y.p2.h, .slice y.p2.a y.p2.v.length y.p2.c, .int .i64 y.p3.w, .int .i64 y.p3.h, .slice y.p3.a y.p3.v.length y.p3.c] 25)).alloc (.cells #[.int .i64 z.p0.w, .int .i64 z.p0.h, .slice z.p0.a z.p0.v.length z.p0.c, .int .i64 z.p1.w, .int .i64 z.p1.h, .slice z.p1.a z.p1.v.length z.p1.c, .int .i64 z.p2.w, .int .i64 z.p2.h, .slice z.p2.a z.p2.v.length z.p2.c, .int .i64 z.p3.w, .int .i64 z.p3.h, .slice z.p3.a z.p3.v.length z.p3.c] 25)) (w.heap.size + 2) 25 (cells4 z) := Row.newAt (by simp) rfl
  have hRz0 := hRz.below k0
  have hsz : (((w.alloc (.cells #[.int .i64 x.p0.w, .int .i64 x.p0.h, .slice x.p0.a x.p0.v.length x.p0.c, .int .i64 x.p1.w, .int .i64 x.p1.h, .slice x.p1.a x.p1.v.length x.p1.c, .int .i64 x.p2.w, .int .i64 x.p2.h, .slice x.p2.a x.p2.v.length x.p2.c, .int .i64 x.p3.w, .int .i64 x.p3.h, .slice x.p3.a x.p3.v.length x.p3.c] 25)).alloc (.cells #[.int .i64 y.p0.w, .int .i64 y.p0.h, .slice y.p0.a y.p0.v.length y.p0.c, .int .i64 y.p1.w, .int .i64 y.p1.h, .slice y.p1.a y.p1.v.length y.p1.c, .int .i64 y.p2.w, .int .i64 y.p2.h, .slice y.p2.a y.p2.v.length y.p2.c, .int .i64 y.p3.w, .int .i64 y.p3.h, .slice y.p3.a y.p3.v.length y.p3.c] 25)).alloc (.cells #[.int .i64 z.p0.w, .int .i64 z.p0.h, .slice z.p0.a z.p0.v.length z.p0.c, .int .i64 z.p1.w, .int .i64 z.p1.h, .slice z.p1.a z.p1.v.length z.p1.c, .int .i64 z.p2.w, .int .i64 z.p2.h, .slice z.p2.a z.p2.v.length z.p2.c, .int .i64 z.p3.w, .int .i64 z.p3.h, .slice z.p3.a z.p3.v.length z.p3.c] 25)).heap.size = w.heap.size + 3 := by simp
  unfold agg4
  go_enter Try.func8, Try.ntmps8
  go_wp2_with first
    | (refine Try.load25 x rfl _ rfl w.heap.size 0 rfl Rx.range ?_)
    | (refine Try.load25 y rfl _ rfl (w.heap.size + 1) 0 rfl Ry.range ?_)
    | (refine Try.load25 z rfl _ rfl (w.heap.size + 2) 0 rfl Rz.range ?_)
    | (refine Try.load25g x _ rfl w.heap.size 0 rfl Rx.range (by rfl) ?_)
    | (refine Try.load25g y _ rfl (w.heap.size + 1) 0 rfl Ry.range (by rfl) ?_)
    | (refine Try.load25g z _ rfl (w.heap.size + 2) 0 rfl Rz.range (by rfl) ?_)
  refine (light_any x _ hfx).mono ?_
  rintro e w1 ⟨rfl, hb1⟩
  have k1 := k0.trans (hb1.mono k0.size)
  replace Rx := Rx.below hb1 (by have := k0.size; first | exact Rx.lt | omega)
  replace hRx0 := hRx0.below hb1
  replace Ry := Ry.below hb1 (by have := k0.size; first | exact Ry.lt | omega)
  replace hRy0 := hRy0.below hb1
  replace Rz := Rz.below hb1 (by have := k0.size; first | exact Rz.lt | omega)
  replace hRz0 := hRz0.below hb1
  clear k0 hb1
  obtain ⟨px, hpx⟩ : ∃ p, lightB x = p := ⟨_, rfl⟩
  rw [hpx]
  have HPx := Lib.hid hpx
  clear hpx
  cases px
  · go_wp2_with first
      | (refine Try.load25 x rfl _ rfl w.heap.size 0 rfl Rx.range ?_)
      | (refine Try.load25 y rfl _ rfl (w.heap.size + 1) 0 rfl Ry.range ?_)
      | (refine Try.load25 z rfl _ rfl (w.heap.size + 2) 0 rfl Rz.range ?_)
      | (refine Try.load25g x _ rfl w.heap.size 0 rfl Rx.range (by rfl) ?_)
      | (refine Try.load25g y _ rfl (w.heap.size + 1) 0 rfl Ry.range (by rfl) ?_)
      | (refine Try.load25g z _ rfl (w.heap.size + 2) 0 rfl Rz.range (by rfl) ?_)
    refine (awake_any _).mono ?_
    rintro e w102 ⟨rfl, hb102⟩
    have k102 := k1.trans (hb102.mono k1.size)
    replace Rx := Rx.below hb102 (by have := k1.size; first | exact Rx.lt | omega)
    replace hRx0 := hRx0.below hb102
    replace Ry := Ry.below hb102 (by have := k1.size; first | exact Ry.lt | omega)
    replace hRy0 := hRy0.below hb102
    replace Rz := Rz.below hb102 (by have := k1.size; first | exact Rz.lt | omega)
    replace hRz0 := hRz0.below hb102
    clear k1 hb102
    go_wp2
    go_ret
    exact RetV.bool rfl k102
  have hFx := light_few HPx.out
  go_wp2_with first
    | (refine Try.load25 x rfl _ rfl w.heap.size 0 rfl Rx.range ?_)
    | (refine Try.load25 y rfl _ rfl (w.heap.size + 1) 0 rfl Ry.range ?_)
    | (refine Try.load25 z rfl _ rfl (w.heap.size + 2) 0 rfl Rz.range ?_)
    | (refine Try.load25g x _ rfl w.heap.size 0 rfl Rx.range (by rfl) ?_)
    | (refine Try.load25g y _ rfl (w.heap.size + 1) 0 rfl Ry.range (by rfl) ?_)
    | (refine Try.load25g z _ rfl (w.heap.size + 2) 0 rfl Rz.range (by rfl) ?_)
  refine (light_any y _ hfy).mono ?_
  rintro e w2 ⟨rfl, hb2⟩
  have k2 := k1.trans (hb2.mono k1.size)
  replace Rx := Rx.below hb2 (by have := k1.size; first | exact Rx.lt | omega)
  replace hRx0 := hRx0.below hb2
  replace Ry := Ry.below hb2 (by have := k1.size; first | exact Ry.lt | omega)
  replace hRy0 := hRy0.below hb2
  replace Rz := Rz.below hb2 (by have := k1.size; first | exact Rz.lt | omega)
  replace hRz0 := hRz0.below hb2
  clear k1 hb2
  obtain ⟨py, hpy⟩ : ∃ p, lightB y = p := ⟨_, rfl⟩
  rw [hpy]
  have HPy := Lib.hid hpy
  clear hpy
  cases py
  · go_wp2_with first
      | (refine Try.load25 x rfl _ rfl w.heap.size 0 rfl Rx.range ?_)
      | (refine Try.load25 y rfl _ rfl (w.heap.size + 1) 0 rfl Ry.range ?_)
      | (refine Try.load25 z rfl _ rfl (w.heap.size + 2) 0 rfl Rz.range ?_)
      | (refine Try.load25g x _ rfl w.heap.size 0 rfl Rx.range (by rfl) ?_)
      | (refine Try.load25g y _ rfl (w.heap.size + 1) 0 rfl Ry.range (by rfl) ?_)
      | (refine Try.load25g z _ rfl (w.heap.size + 2) 0 rfl Rz.range (by rfl) ?_)
    refine (awake_any _).mono ?_
    rintro e w103 ⟨rfl, hb103⟩
    have k103 := k2.trans (hb103.mono k2.size)
    replace Rx := Rx.below hb103 (by have := k2.size; first | exact Rx.lt | omega)
    replace hRx0 := hRx0.below hb103
    replace Ry := Ry.below hb103 (by have := k2.size; first | exact Ry.lt | omega)
    replace hRy0 := hRy0.below hb103
    replace Rz := Rz.below hb103 (by have := k2.size; first | exact Rz.lt | omega)
    replace hRz0 := hRz0.below hb103
    clear k2 hb103
    go_wp2
    go_ret
    exact RetV.bool rfl k103
  have hFy := light_few HPy.out
  go_wp2_with first
    | (refine Try.load25 x rfl _ rfl w.heap.size 0 rfl Rx.range ?_)
    | (refine Try.load25 y rfl _ rfl (w.heap.size + 1) 0 rfl Ry.range ?_)
    | (refine Try.load25 z rfl _ rfl (w.heap.size + 2) 0 rfl Rz.range ?_)
    | (refine Try.load25g x _ rfl w.heap.size 0 rfl Rx.range (by rfl) ?_)
    | (refine Try.load25g y _ rfl (w.heap.size + 1) 0 rfl Ry.range (by rfl) ?_)
    | (refine Try.load25g z _ rfl (w.heap.size + 2) 0 rfl Rz.range (by rfl) ?_)
  refine (light_any z _ hfz).mono ?_
  rintro e w3 ⟨rfl, hb3⟩
  have k3 := k2.trans (hb3.mono k2.size)
  replace Rx := Rx.below hb3 (by have := k2.size; first | exact Rx.lt | omega)
  replace hRx0 := hRx0.below hb3
  replace Ry := Ry.below hb3 (by have := k2.size; first | exact Ry.lt | omega)
  replace hRy0 := hRy0.below hb3
  replace Rz := Rz.below hb3 (by have := k2.size; first | exact Rz.lt | omega)
  replace hRz0 := hRz0.below hb3
  clear k2 hb3
  obtain ⟨pz, hpz⟩ : ∃ p, lightB z = p := ⟨_, rfl⟩
  rw [hpz]
  have HPz := Lib.hid hpz
  clear hpz
  cases pz
  · go_wp2_with first
      | (refine Try.load25 x rfl _ rfl w.heap.size 0 rfl Rx.range ?_)
      | (refine Try.load25 y rfl _ rfl (w.heap.size + 1) 0 rfl Ry.range ?_)
      | (refine Try.load25 z rfl _ rfl (w.heap.size + 2) 0 rfl Rz.range ?_)
      | (refine Try.load25g x _ rfl w.heap.size 0 rfl Rx.range (by rfl) ?_)
      | (refine Try.load25g y _ rfl (w.heap.size + 1) 0 rfl Ry.range (by rfl) ?_)
      | (refine Try.load25g z _ rfl (w.heap.size + 2) 0 rfl Rz.range (by rfl) ?_)
    refine (awake_any _).mono ?_
    rintro e w104 ⟨rfl, hb104⟩
    have k104 := k3.trans (hb104.mono k3.size)
    replace Rx := Rx.below hb104 (by have := k3.size; first | exact Rx.lt | omega)
    replace hRx0 := hRx0.below hb104
    replace Ry := Ry.below hb104 (by have := k3.size; first | exact Ry.lt | omega)
    replace hRy0 := hRy0.below hb104
    replace Rz := Rz.below hb104 (by have := k3.size; first | exact Rz.lt | omega)
    replace hRz0 := hRz0.below hb104
    clear k3 hb104
    go_wp2
    go_ret
    exact RetV.bool rfl k104
  have hFz := light_few HPz.out
  go_wp2_with first
    | (refine Try.load25 x rfl _ rfl w.heap.size 0 rfl Rx.range ?_)
    | (refine Try.load25 y rfl _ rfl (w.heap.size + 1) 0 rfl Ry.range ?_)
    | (refine Try.load25 z rfl _ rfl (w.heap.size + 2) 0 rfl Rz.range ?_)
    | (refine Try.load25g x _ rfl w.heap.size 0 rfl Rx.range (by rfl) ?_)
    | (refine Try.load25g y _ rfl (w.heap.size + 1) 0 rfl Ry.range (by rfl) ?_)
    | (refine Try.load25g z _ rfl (w.heap.size + 2) 0 rfl Rz.range (by rfl) ?_)
  refine (proof_boxes x y _ hFx hFy hRx0 hRy0).mono ?_
  rintro e w4 ⟨v1, rfl, hv1, hb4⟩
  have k4 := k3.trans (hb4.mono k3.size)
  replace Rx := Rx.below hb4 (by have := k3.size; first | exact Rx.lt | omega)
  replace hRx0 := hRx0.below hb4
  replace Ry := Ry.below hb4 (by have := k3.size; first | exact Ry.lt | omega)
  replace hRy0 := hRy0.below hb4
  replace Rz := Rz.below hb4 (by have := k3.size; first | exact Rz.lt | omega)
  replace hRz0 := hRz0.below hb4
  clear k3 hb4
  go_wp2_with first
    | (refine Try.load25 x rfl _ rfl w.heap.size 0 rfl Rx.range ?_)
    | (refine Try.load25 y rfl _ rfl (w.heap.size + 1) 0 rfl Ry.range ?_)
    | (refine Try.load25 z rfl _ rfl (w.heap.size + 2) 0 rfl Rz.range ?_)
    | (refine Try.load25g x _ rfl w.heap.size 0 rfl Rx.range (by rfl) ?_)
    | (refine Try.load25g y _ rfl (w.heap.size + 1) 0 rfl Ry.range (by rfl) ?_)
    | (refine Try.load25g z _ rfl (w.heap.size + 2) 0 rfl Rz.range (by rfl) ?_)
  refine (proof_boxes y z _ hFy hFz hRy0 hRz0).mono ?_
  rintro e w5 ⟨v2, rfl, hv2, hb5⟩
  have k5 := k4.trans (hb5.mono k4.size)
  replace Rx := Rx.below hb5 (by have := k4.size; first | exact Rx.lt | omega)
  replace hRx0 := hRx0.below hb5
  replace Ry := Ry.below hb5 (by have := k4.size; first | exact Ry.lt | omega)
  replace hRy0 := hRy0.below hb5
  replace Rz := Rz.below hb5 (by have := k4.size; first | exact Rz.lt | omega)
  replace hRz0 := hRz0.below hb5
  replace hv1 := hv1.below hb5
  clear k4 hb5
  go_wp2_with first
    | (refine Try.load25 x rfl _ rfl w.heap.size 0 rfl Rx.range ?_)
    | (refine Try.load25 y rfl _ rfl (w.heap.size + 1) 0 rfl Ry.range ?_)
    | (refine Try.load25 z rfl _ rfl (w.heap.size + 2) 0 rfl Rz.range ?_)
    | (refine Try.load25g x _ rfl w.heap.size 0 rfl Rx.range (by rfl) ?_)
    | (refine Try.load25g y _ rfl (w.heap.size + 1) 0 rfl Ry.range (by rfl) ?_)
    | (refine Try.load25g z _ rfl (w.heap.size + 2) 0 rfl Rz.range (by rfl) ?_)
  refine (proof_boxes x z _ hFx hFz hRx0 hRz0).mono ?_
  rintro e w6 ⟨v3, rfl, hv3, hb6⟩
  have k6 := k5.trans (hb6.mono k5.size)
  replace Rx := Rx.below hb6 (by have := k5.size; first | exact Rx.lt | omega)
  replace hRx0 := hRx0.below hb6
  replace Ry := Ry.below hb6 (by have := k5.size; first | exact Ry.lt | omega)
  replace hRy0 := hRy0.below hb6
  replace Rz := Rz.below hb6 (by have := k5.size; first | exact Rz.lt | omega)
  replace hRz0 := hRz0.below hb6
  replace hv1 := hv1.below hb6
  replace hv2 := hv2.below hb6
  clear k5 hb6
  have hl1 := bxR_len x y
  have hl2 := bxR_len y z
  have hl3 := bxR_len x z
  by_cases h1 : bxE x y = 0
  rotate_left
  · have hb1 : (bxE x y != 0) = true := by simp [h1]
    clear h1 hl1 hl2 hl3 hv1 hv2 hv3
    generalize bxE x y = r1 at *
    generalize bxE y z = r2 at *
    generalize bxE x z = r3 at *
    go_wp2_with first
      | (refine Try.load25 x rfl _ rfl w.heap.size 0 rfl Rx.range ?_)
      | (refine Try.load25 y rfl _ rfl (w.heap.size + 1) 0 rfl Ry.range ?_)
      | (refine Try.load25 z rfl _ rfl (w.heap.size + 2) 0 rfl Rz.range ?_)
      | (refine Try.load25g x _ rfl w.heap.size 0 rfl Rx.range (by rfl) ?_)
      | (refine Try.load25g y _ rfl (w.heap.size + 1) 0 rfl Ry.range (by rfl) ?_)
      | (refine Try.load25g z _ rfl (w.heap.size + 2) 0 rfl Rz.range (by rfl) ?_)
    refine (awake_any _).mono ?_
    rintro e w107 ⟨rfl, hb107⟩
    have k107 := k6.trans (hb107.mono k6.size)
    replace Rx := Rx.below hb107 (by have := k6.size; first | exact Rx.lt | omega)
    replace hRx0 := hRx0.below hb107
    replace Ry := Ry.below hb107 (by have := k6.size; first | exact Ry.lt | omega)
    replace hRy0 := hRy0.below hb107
    replace Rz := Rz.below hb107 (by have := k6.size; first | exact Rz.lt | omega)
    replace hRz0 := hRz0.below hb107
    clear k6 hb107
    go_wp2
    go_ret
    exact RetV.bool rfl k107
  by_cases h2 : bxE y z = 0
  rotate_left
  · have hb1 : (bxE y z != 0) = true := by simp [h2]
    rw [h1]
    clear h1 h2 hl1 hl2 hl3 hv1 hv2 hv3
    generalize bxE y z = r2 at *
    generalize bxE x z = r3 at *
    go_wp2_with first
      | (refine Try.load25 x rfl _ rfl w.heap.size 0 rfl Rx.range ?_)
      | (refine Try.load25 y rfl _ rfl (w.heap.size + 1) 0 rfl Ry.range ?_)
      | (refine Try.load25 z rfl _ rfl (w.heap.size + 2) 0 rfl Rz.range ?_)
      | (refine Try.load25g x _ rfl w.heap.size 0 rfl Rx.range (by rfl) ?_)
      | (refine Try.load25g y _ rfl (w.heap.size + 1) 0 rfl Ry.range (by rfl) ?_)
      | (refine Try.load25g z _ rfl (w.heap.size + 2) 0 rfl Rz.range (by rfl) ?_)
    refine (awake_any _).mono ?_
    rintro e w107 ⟨rfl, hb107⟩
    have k107 := k6.trans (hb107.mono k6.size)
    replace Rx := Rx.below hb107 (by have := k6.size; first | exact Rx.lt | omega)
    replace hRx0 := hRx0.below hb107
    replace Ry := Ry.below hb107 (by have := k6.size; first | exact Ry.lt | omega)
    replace hRy0 := hRy0.below hb107
    replace Rz := Rz.below hb107 (by have := k6.size; first | exact Rz.lt | omega)
    replace hRz0 := hRz0.below hb107
    clear k6 hb107
    go_wp2
    go_ret
    exact RetV.bool rfl k107
  have h3 := chain_E h1 h2
  have HC := Lib.hid (fun X Y => chain_any h1 h2 X Y)
  rw [bxR_z h1] at hv1 hl1
  rw [bxR_z h2] at hv2 hl2
  rw [bxR_z h3] at hv3 hl3
  obtain ⟨Wd, Ht, e1, e2, hW, hH, _⟩ := bx_exact h1
  rw [h1, h2, h3]
  have g0 := Rx.cell 0
  have g1 := Rx.cell 1
  simp only [cells4, List.getElem?_cons_succ, List.getElem?_cons_zero] at g0 g1
  rw [e1] at g0
  rw [e2] at g1
  have hlt := Rx.lt
  clear h1 h2 h3 e1 e2 Rx Ry Rz hRx0 hRy0 hRz0
  generalize bxL x y = l1 at *
  generalize bxL y z = l2 at *
  generalize bxL x z = l3 at *
  go_wp2_with fail
  have G0 := Lib.hid (fun (W : World) (hb : Below w6.heap.size w6 W) => (hb.cell (p := ⟨w.heap.size, 0, none⟩) hlt).trans g0)
  have G1 := Lib.hid (fun (W : World) (hb : Below w6.heap.size w6 W) => (hb.cell (p := ⟨w.heap.size, 1, none⟩) hlt).trans g1)
  clear g0 g1
  go_loopw [13] (fun i wr => ∃ k : Nat, k ≤ Ht ∧ i = .int .i64 k ∧ Below w6.heap.size w6 wr) (fun i _ => Ht - (intOf i).toNat)
  case atStart => exact ⟨0, Nat.zero_le _, rfl, Below.refl _ _⟩
  case round =>
    obtain ⟨k, hk, rfl, hbw⟩ := hrel
    have g1 := G1.out wr hbw
    by_cases hlk : k < Ht
    · have hd : decide (k < Ht) = true := decide_eq_true hlk
      go_wp2_with fail
      clear g1
      generalize wr = wa at *
      have hS0 := hbw.size
      have Ga0 := Lib.hid (fun (W : World) (hb : Below wa.heap.size wa W) => G0.out W (hbw.trans (hb.mono hbw.size)))
      go_loopw [14] (fun i wr => ∃ j : Nat, j ≤ Wd ∧ i = .int .i64 j ∧ Below wa.heap.size wa wr) (fun i _ => Wd - (intOf i).toNat)
      case atStart => exact ⟨0, Nat.zero_le _, rfl, Below.refl _ _⟩
      case round =>
        obtain ⟨j, hj, rfl, hbi⟩ := hrel
        have g0 := Ga0.out wr hbi
        have kk := hbw.trans (hbi.mono hbw.size)
        by_cases hlj : j < Wd
        · have hd2 : decide (j < Wd) = true := decide_eq_true hlj
          have hc := HC.out (j : Int) (k : Int)
          have hv1' := hv1.below kk
          have hv2' := hv2.below kk
          have hv3' := hv3.below kk
          have C1 := Lib.hid (fun (W : World) (hb : Below wr.heap.size wr W) => covered_any v1 l1 j k W (by omega) (hv1'.below hb))
          have C2 := Lib.hid (fun (W : World) (hb : Below wr.heap.size wr W) => covered_any v2 l2 j k W (by omega) (hv2'.below hb))
          have C3 := Lib.hid (fun (W : World) (hb : Below wr.heap.size wr W) => covered_any v3 l3 j k W (by omega) (hv3'.below hb))
          generalize (l1.any fun b => coverB b j k) = p1 at *
          generalize (l2.any fun b => coverB b j k) = p2 at *
          generalize (l3.any fun b => coverB b j k) = p3 at *
          have HCC := Lib.hid hc
          clear hc hv1' hv2' hv3'
          go_wp2_with fail
          clear g0
          refine (C3.out _ (Below.refl _ _)).mono ?_
          rintro e wx1 ⟨rfl, hx1⟩
          have kx1 := hbi.trans (hx1.mono hbi.size)
          cases p3
          · go_wp2
            go_roundw
            case rel => exact ⟨j + 1, by omega, by go_num, kx1⟩
            case measure => simp [intOf]; omega
          · go_wp2_with fail
            refine (C1.out _ hx1).mono ?_
            rintro e wx2 ⟨rfl, hx2⟩
            have hx12 := hx1.trans (hx2.mono hx1.size)
            have kx2 := hbi.trans (hx12.mono hbi.size)
            cases p1
            · have hp2 : p2 = true := by have := HCC.out; simpa using this
              subst hp2
              go_wp2_with fail
              refine (C2.out _ hx12).mono ?_
              rintro e wx3 ⟨rfl, hx3⟩
              have hx13 := hx12.trans (hx3.mono hx12.size)
              have kx3 := hbi.trans (hx13.mono hbi.size)
              go_wp2
              go_roundw
              case rel => exact ⟨j + 1, by omega, by go_num, kx3⟩
              case measure => simp [intOf]; omega
            · go_wp2
              go_roundw
              case rel => exact ⟨j + 1, by omega, by go_num, kx2⟩
              case measure => simp [intOf]; omega
        · have hd2 : decide (j < Wd) = false := decide_eq_false hlj
          go_wp2
          go_roundw
          case rel => exact ⟨k + 1, by omega, by go_num, kk⟩
          case measure => simp [intOf]; omega
    · have hd : decide (k < Ht) = false := decide_eq_false hlk
      go_wp2_with fail
      refine (awake_any _).mono ?_
      rintro e wz ⟨rfl, hz⟩
      have kz := hbw.trans (hz.mono hbw.size)
      go_wp2
      go_ret
      exact RetV.bool rfl (k6.trans (kz.mono k6.size))
end Go.Proofs
