/- The laws Colors and Boxes, walked. -/
import Derived.Test.YtnckglojbhlekaaW3
set_option linter.unusedVariables false
set_option linter.unusedSimpArgs false
namespace Go.Proofs
open Go.RowKit Go.Proofs.Mp

theorem Try.load25g {ops : Array Oper} {rest : List Oper} {o : Oper} {a : Act} {Q : Exit → Act → World → Prop} {w : World} (q : P4) (x : Operand) (ho : o.op = .load 25 x)
    (b off : Nat) (hx : a.eval x = .pointer (some ⟨b, off, none⟩)) (hc : w.rangeAt b off (cells4 q)) (hw : Region.wanted o (yielded ops a.tmps) = true)
    (h : wpList Try.prog ops Q rest (a.put o.dst (agg4 q)) w) : wpList Try.prog ops Q (o :: rest) a w :=
  wpList_step fun K hK => by rw [if_pos hw]; exact wp_load_mid 25 x ho b off hx (cells4 q) _ hc Try.underlying25 rfl Try.size25 (hK _ _ h)
theorem colR_len {x : P4} {N : Nat} (h : Few4 x N) : (colR x).length ≤ N := by
  unfold colR
  split
  · rw [colL_len]; exact h 0
  · exact Nat.zero_le _
set_option maxRecDepth 100000 in
set_option maxHeartbeats 4000000 in
theorem law_colors (x : P4) (w : World) (hfx : Few4 x 9223372036854775807) (hRx : Rd4 w x) : Calls Try.prog 3 #[agg4 x] w (RetV w (.bool true)) := by
  have k0 : Below w.heap.size w (w.alloc (.cells #[.int .i64 x.p0.w, .int .i64 x.p0.h, .slice x.p0.a x.p0.v.length x.p0.c, .int .i64 x.p1.w, .int .i64 x.p1.h, .slice x.p1.a x.p1.v.length x.p1.c, .int .i64 x.p2.w, .int .i64 x.p2.h, .slice x.p2.a x.p2.v.length x.p2.c, .int .i64 x.p3.w, .int .i64 x.p3.h, .slice x.p3.a x.p3.v.length x.p3.c] 25)) := bw1 _ _
  have Rx : Mp.Row (w.alloc (.cells #[.int .i64 x.p0.w, .int .i64 x.p0.h, .slice x.p0.a x.p0.v.length x.p0.c, .int .i64 x.p1.w, .int .i64 x.p1.h, .slice x.p1.a x.p1.v.length x.p1.c, .int .i64 x.p2.w, .int .i64 x.p2.h, .slice x.p2.a x.p2.v.length x.p2.c, .int .i64 x.p3.w, .int .i64 x.p3.h, .slice x.p3.a x.p3.v.length x.p3.c] 25)) w.heap.size 25 (cells4 x) := Row.newAt rfl rfl
  have hRx0 := hRx.below k0
  have hsz : (w.alloc (.cells #[.int .i64 x.p0.w, .int .i64 x.p0.h, .slice x.p0.a x.p0.v.length x.p0.c, .int .i64 x.p1.w, .int .i64 x.p1.h, .slice x.p1.a x.p1.v.length x.p1.c, .int .i64 x.p2.w, .int .i64 x.p2.h, .slice x.p2.a x.p2.v.length x.p2.c, .int .i64 x.p3.w, .int .i64 x.p3.h, .slice x.p3.a x.p3.v.length x.p3.c] 25)).heap.size = w.heap.size + 1 := by simp
  unfold agg4
  go_enter Try.func3, Try.ntmps3
  go_wp2_with first
    | (refine Try.load25 x rfl _ rfl w.heap.size 0 rfl Rx.range ?_)
    | (refine Try.load25g x _ rfl w.heap.size 0 rfl Rx.range (by rfl) ?_)
  refine (light_any x _ hfx).mono ?_
  rintro e w1 ⟨rfl, hb1⟩
  have k1 := k0.trans (hb1.mono k0.size)
  replace Rx := Rx.below hb1 (by have := k0.size; first | exact Rx.lt | omega)
  replace hRx0 := hRx0.below hb1
  clear k0 hb1
  obtain ⟨px, hpx⟩ : ∃ p, lightB x = p := ⟨_, rfl⟩
  rw [hpx]
  have HPx := Lib.hid hpx
  clear hpx
  cases px
  · go_wp2_with first
      | (refine Try.load25 x rfl _ rfl w.heap.size 0 rfl Rx.range ?_)
      | (refine Try.load25g x _ rfl w.heap.size 0 rfl Rx.range (by rfl) ?_)
    refine (awake_any _).mono ?_
    rintro e w102 ⟨rfl, hb102⟩
    have k102 := k1.trans (hb102.mono k1.size)
    replace Rx := Rx.below hb102 (by have := k1.size; first | exact Rx.lt | omega)
    replace hRx0 := hRx0.below hb102
    clear k1 hb102
    go_wp2
    go_ret
    exact RetV.bool rfl k102
  have hFx := light_few HPx.out
  go_wp2_with first
    | (refine Try.load25 x rfl _ rfl w.heap.size 0 rfl Rx.range ?_)
    | (refine Try.load25g x _ rfl w.heap.size 0 rfl Rx.range (by rfl) ?_)
  refine (colors_any x _ (fun j => Nat.le_trans (hFx j) (by omega)) hRx0).mono ?_
  rintro e w2 ⟨v1, rfl, hv1, hb2⟩
  have k2 := k1.trans (hb2.mono k1.size)
  replace Rx := Rx.below hb2 (by have := k1.size; first | exact Rx.lt | omega)
  replace hRx0 := hRx0.below hb2
  clear k1 hb2
  go_wp2_with first
    | (refine Try.load25 x rfl _ rfl w.heap.size 0 rfl Rx.range ?_)
    | (refine Try.load25g x _ rfl w.heap.size 0 rfl Rx.range (by rfl) ?_)
  refine (ref_colors x _ (fun j => Nat.le_trans (hFx j) (by omega)) hRx0).mono ?_
  rintro e w3 ⟨v2, rfl, hv2, hb3⟩
  have k3 := k2.trans (hb3.mono k2.size)
  replace Rx := Rx.below hb3 (by have := k2.size; first | exact Rx.lt | omega)
  replace hRx0 := hRx0.below hb3
  replace hv1 := hv1.below hb3
  clear k2 hb3
  have hcl := colR_len hFx
  generalize colR x = cl at hv1 hv2 hcl
  generalize colE x = ce at *
  go_wp2_with first
    | (refine Try.load25 x rfl _ rfl w.heap.size 0 rfl Rx.range ?_)
    | (refine Try.load25g x _ rfl w.heap.size 0 rfl Rx.range (by rfl) ?_)
  refine (awake_any _).mono ?_
  rintro e w4 ⟨rfl, hb4⟩
  have k4 := k3.trans (hb4.mono k3.size)
  replace Rx := Rx.below hb4 (by have := k3.size; first | exact Rx.lt | omega)
  replace hRx0 := hRx0.below hb4
  replace hv1 := hv1.below hb4
  replace hv2 := hv2.below hb4
  clear k3 hb4
  go_wp2_with first
    | (refine Try.load25 x rfl _ rfl w.heap.size 0 rfl Rx.range ?_)
    | (refine Try.load25g x _ rfl w.heap.size 0 rfl Rx.range (by rfl) ?_)
  refine (c_same hv1 hv2 (by omega) (by omega)).mono ?_
  rintro e w5 ⟨rfl, hb5⟩
  have k5 := k4.trans (hb5.mono k4.size)
  replace Rx := Rx.below hb5 (by have := k4.size; first | exact Rx.lt | omega)
  replace hRx0 := hRx0.below hb5
  replace hv1 := hv1.below hb5
  replace hv2 := hv2.below hb5
  clear k4 hb5
  rw [show decide (cl = cl) = true from decide_eq_true rfl]
  go_wp2
  go_ret
  exact RetV.bool (by simp) k5
set_option maxRecDepth 100000 in
set_option maxHeartbeats 4000000 in
theorem law_boxes (x y : P4) (w : World) (hfx : Few4 x 9223372036854775807) (hfy : Few4 y 9223372036854775807) (hRx : Rd4 w x) (hRy : Rd4 w y) : Calls Try.prog 4 #[agg4 x, agg4 y] w (RetV w (.bool true)) := by
  have k0 : Below w.heap.size w ((w.alloc (.cells #[.int .i64 x.p0.w, .int .i64 x.p0.h, .slice x.p0.a x.p0.v.length x.p0.c, .int .i64 x.p1.w, .int .i64 x.p1.h, .slice x.p1.a x.p1.v.length x.p1.c, .int .i64 x.p2.w, .int .i64 x.p2.h, .slice x.p2.a x.p2.v.length x.p2.c, .int .i64 x.p3.w, .int .i64 x.p3.h, .slice x.p3.a x.p3.v.length x.p3.c] 25)).alloc (.cells #[.int .i64 y.p0.w, .int .i64 y.p0.h, .slice y.p0.a y.p0.v.length y.p0.c, .int .i64 y.p1.w, .int .i64 y.p1.h, .slice y.p1.a y.p1.v.length y.p1.c, .int .i64 y.p2.w, .int .i64 y.p2.h, .slice y.p2.a y.p2.v.length y.p2.c, .int .i64 y.p3.w, .int .i64 y.p3.h, .slice y.p3.a y.p3.v.length y.p3.c] 25)) := (bw1 _ _).alloc (by simp) _
  have Rx : Mp.Row ((w.alloc (.cells #[.int .i64 x.p0.w, .int .i64 x.p0.h, .slice x.p0.a x.p0.v.length x.p0.c, .int .i64 x.p1.w, .int .i64 x.p1.h, .slice x.p1.a x.p1.v.length x.p1.c, .int .i64 x.p2.w, .int .i64 x.p2.h, .slice x.p2.a x.p2.v.length x.p2.c, .int .i64 x.p3.w, .int .i64 x.p3.h, .slice x.p3.a x.p3.v.length x.p3.c] 25)).alloc (.cells #[.int .i64 y.p0.w, .int .i64 y.p0.h, .slice y.p0.a y.p0.v.length y.p0.c, .int .i64 y.p1.w, .int .i64 y.p1.h, .slice y.p1.a y.p1.v.length y.p1.c, .int .i64 y.p2.w, .int .i64 y.p2.h, .slice y.p2.a y.p2.v.length y.p2.c, .int .i64 y.p3.w, .int .i64 y.p3.h, .slice y.p3.a y.p3.v.length y.p3.c] 25)) w.heap.size 25 (cells4 x) := (Row.newAt rfl rfl).alloc _
  have hRx0 := hRx.below k0
  have Ry : Mp.Row ((w.alloc (.cells #[.int .i64 x.p0.w, .int .i64 x.p0.h, .slice x.p0.a x.p0.v.length x.p0.c, .int .i64 x.p1.w, .int .i64 x.p1.h, .slice x.p1.a x.p1.v.length x.p1.c, .int .i64 x.p2.w, .int .i64 x.p2.h, .slice x.p2.a x.p2.v.length x.p2.c, .int .i64 x.p3.w, .int .i64 x.p3.h, .slice x.p3.a x.p3.v.length x.p3.c] 25)).alloc (.cells #[.int .i64 y.p0.w, .int .i64 y.p0.h, .slice y.p0.a y.p0.v.length y.p0.c, .int .i64 y.p1.w, .int .i64 y.p1.h, .slice y.p1.a y.p1.v.length y.p1.c, .int .i64 y.p2.w, .int .i64 y.p2.h, .slice y.p2.a y.p2.v.length y.p2.c, .int .i64 y.p3.w, .int .i64 y.p3.h, .slice y.p3.a y.p3.v.length y.p3.c] 25)) (w.heap.size + 1) 25 (cells4 y) := Row.newAt (by simp) rfl
  have hRy0 := hRy.below k0
  have hsz : ((w.alloc (.cells #[.int .i64 x.p0.w, .int .i64 x.p0.h, .slice x.p0.a x.p0.v.length x.p0.c, .int .i64 x.p1.w, .int .i64 x.p1.h, .slice x.p1.a x.p1.v.length x.p1.c, .int .i64 x.p2.w, .int .i64 x.p2.h, .slice x.p2.a x.p2.v.length x.p2.c, .int .i64 x.p3.w, .int .i64 x.p3.h, .slice x.p3.a x.p3.v.length x.p3.c] 25)).alloc (.cells #[.int .i64 y.p0.w, .int .i64 y.p0.h, .slice y.p0.a y.p0.v.length y.p0.c, .int .i64 y.p1.w, .int .i64 y.p1.h, .slice y.p1.a y.p1.v.length y.p1.c, .int .i64 y.p2.w, .int .i64 y.p2.h, .slice y.p2.a y.p2.v.length y.p2.c, .int .i64 y.p3.w, .int .i64 y.p3.h, .slice y.p3.a y.p3.v.length y.p3.c] 25)).heap.size = w.heap.size + 2 := by simp
  unfold agg4
  go_enter Try.func4, Try.ntmps4
  go_wp2_with first
    | (refine Try.load25 x rfl _ rfl w.heap.size 0 rfl Rx.range ?_)
    | (refine Try.load25 y rfl _ rfl (w.heap.size + 1) 0 rfl Ry.range ?_)
    | (refine Try.load25g x _ rfl w.heap.size 0 rfl Rx.range (by rfl) ?_)
    | (refine Try.load25g y _ rfl (w.heap.size + 1) 0 rfl Ry.range (by rfl) ?_)
  refine (light_any x _ hfx).mono ?_
  rintro e w1 ⟨rfl, hb1⟩
  have k1 := k0.trans (hb1.mono k0.size)
  replace Rx := Rx.below hb1 (by have := k0.size; first | exact Rx.lt | omega)
  replace hRx0 := hRx0.below hb1
  replace Ry := Ry.below hb1 (by have := k0.size; first | exact Ry.lt | omega)
  replace hRy0 := hRy0.below hb1
  clear k0 hb1
  obtain ⟨px, hpx⟩ : ∃ p, lightB x = p := ⟨_, rfl⟩
  rw [hpx]
  have HPx := Lib.hid hpx
  clear hpx
  cases px
  · go_wp2_with first
      | (refine Try.load25 x rfl _ rfl w.heap.size 0 rfl Rx.range ?_)
      | (refine Try.load25 y rfl _ rfl (w.heap.size + 1) 0 rfl Ry.range ?_)
      | (refine Try.load25g x _ rfl w.heap.size 0 rfl Rx.range (by rfl) ?_)
      | (refine Try.load25g y _ rfl (w.heap.size + 1) 0 rfl Ry.range (by rfl) ?_)
    refine (awake_any _).mono ?_
    rintro e w102 ⟨rfl, hb102⟩
    have k102 := k1.trans (hb102.mono k1.size)
    replace Rx := Rx.below hb102 (by have := k1.size; first | exact Rx.lt | omega)
    replace hRx0 := hRx0.below hb102
    replace Ry := Ry.below hb102 (by have := k1.size; first | exact Ry.lt | omega)
    replace hRy0 := hRy0.below hb102
    clear k1 hb102
    go_wp2
    go_ret
    exact RetV.bool rfl k102
  have hFx := light_few HPx.out
  go_wp2_with first
    | (refine Try.load25 x rfl _ rfl w.heap.size 0 rfl Rx.range ?_)
    | (refine Try.load25 y rfl _ rfl (w.heap.size + 1) 0 rfl Ry.range ?_)
    | (refine Try.load25g x _ rfl w.heap.size 0 rfl Rx.range (by rfl) ?_)
    | (refine Try.load25g y _ rfl (w.heap.size + 1) 0 rfl Ry.range (by rfl) ?_)
  refine (light_any y _ hfy).mono ?_
  rintro e w2 ⟨rfl, hb2⟩
  have k2 := k1.trans (hb2.mono k1.size)
  replace Rx := Rx.below hb2 (by have := k1.size; first | exact Rx.lt | omega)
  replace hRx0 := hRx0.below hb2
  replace Ry := Ry.below hb2 (by have := k1.size; first | exact Ry.lt | omega)
  replace hRy0 := hRy0.below hb2
  clear k1 hb2
  obtain ⟨py, hpy⟩ : ∃ p, lightB y = p := ⟨_, rfl⟩
  rw [hpy]
  have HPy := Lib.hid hpy
  clear hpy
  cases py
  · go_wp2_with first
      | (refine Try.load25 x rfl _ rfl w.heap.size 0 rfl Rx.range ?_)
      | (refine Try.load25 y rfl _ rfl (w.heap.size + 1) 0 rfl Ry.range ?_)
      | (refine Try.load25g x _ rfl w.heap.size 0 rfl Rx.range (by rfl) ?_)
      | (refine Try.load25g y _ rfl (w.heap.size + 1) 0 rfl Ry.range (by rfl) ?_)
    refine (awake_any _).mono ?_
    rintro e w103 ⟨rfl, hb103⟩
    have k103 := k2.trans (hb103.mono k2.size)
    replace Rx := Rx.below hb103 (by have := k2.size; first | exact Rx.lt | omega)
    replace hRx0 := hRx0.below hb103
    replace Ry := Ry.below hb103 (by have := k2.size; first | exact Ry.lt | omega)
    replace hRy0 := hRy0.below hb103
    clear k2 hb103
    go_wp2
    go_ret
    exact RetV.bool rfl k103
  have hFy := light_few HPy.out
  go_wp2_with first
    | (refine Try.load25 x rfl _ rfl w.heap.size 0 rfl Rx.range ?_)
    | (refine Try.load25 y rfl _ rfl (w.heap.size + 1) 0 rfl Ry.range ?_)
    | (refine Try.load25g x _ rfl w.heap.size 0 rfl Rx.range (by rfl) ?_)
    | (refine Try.load25g y _ rfl (w.heap.size + 1) 0 rfl Ry.range (by rfl) ?_)
  refine (proof_boxes x y _ hFx hFy hRx0 hRy0).mono ?_
  rintro e w3 ⟨v1, rfl, hv1, hb3⟩
  have k3 := k2.trans (hb3.mono k2.size)
  replace Rx := Rx.below hb3 (by have := k2.size; first | exact Rx.lt | omega)
  replace hRx0 := hRx0.below hb3
  replace Ry := Ry.below hb3 (by have := k2.size; first | exact Ry.lt | omega)
  replace hRy0 := hRy0.below hb3
  clear k2 hb3
  go_wp2_with first
    | (refine Try.load25 x rfl _ rfl w.heap.size 0 rfl Rx.range ?_)
    | (refine Try.load25 y rfl _ rfl (w.heap.size + 1) 0 rfl Ry.range ?_)
    | (refine Try.load25g x _ rfl w.heap.size 0 rfl Rx.range (by rfl) ?_)
    | (refine Try.load25g y _ rfl (w.heap.size + 1) 0 rfl Ry.range (by rfl) ?_)
  refine (ref_boxes x y _ hFx hFy hRx0 hRy0).mono ?_
  rintro e w4 ⟨v2, rfl, hv2, hb4⟩
  have k4 := k3.trans (hb4.mono k3.size)
  replace Rx := Rx.below hb4 (by have := k3.size; first | exact Rx.lt | omega)
  replace hRx0 := hRx0.below hb4
  replace Ry := Ry.below hb4 (by have := k3.size; first | exact Ry.lt | omega)
  replace hRy0 := hRy0.below hb4
  replace hv1 := hv1.below hb4
  clear k3 hb4
  have hcl := bxR_len x y
  generalize bxR x y = cl at hv1 hv2 hcl
  generalize bxE x y = ce at *
  go_wp2_with first
    | (refine Try.load25 x rfl _ rfl w.heap.size 0 rfl Rx.range ?_)
    | (refine Try.load25 y rfl _ rfl (w.heap.size + 1) 0 rfl Ry.range ?_)
    | (refine Try.load25g x _ rfl w.heap.size 0 rfl Rx.range (by rfl) ?_)
    | (refine Try.load25g y _ rfl (w.heap.size + 1) 0 rfl Ry.range (by rfl) ?_)
  refine (awake_any _).mono ?_
  rintro e w5 ⟨rfl, hb5⟩
  have k5 := k4.trans (hb5.mono k4.size)
  replace Rx := Rx.below hb5 (by have := k4.size; first | exact Rx.lt | omega)
  replace hRx0 := hRx0.below hb5
  replace Ry := Ry.below hb5 (by have := k4.size; first | exact Ry.lt | omega)
  replace hRy0 := hRy0.below hb5
  replace hv1 := hv1.below hb5
  replace hv2 := hv2.below hb5
  clear k4 hb5
  go_wp2_with first
    | (refine Try.load25 x rfl _ rfl w.heap.size 0 rfl Rx.range ?_)
    | (refine Try.load25 y rfl _ rfl (w.heap.size + 1) 0 rfl Ry.range ?_)
    | (refine Try.load25g x _ rfl w.heap.size 0 rfl Rx.range (by rfl) ?_)
    | (refine Try.load25g y _ rfl (w.heap.size + 1) 0 rfl Ry.range (by rfl) ?_)
  refine (c_sameX hv1 hv2 (by omega) (by omega)).mono ?_
  rintro e w6 ⟨rfl, hb6⟩
  have k6 := k5.trans (hb6.mono k5.size)
  replace Rx := Rx.below hb6 (by have := k5.size; first | exact Rx.lt | omega)
  replace hRx0 := hRx0.below hb6
  replace Ry := Ry.below hb6 (by have := k5.size; first | exact Ry.lt | omega)
  replace hRy0 := hRy0.below hb6
  replace hv1 := hv1.below hb6
  replace hv2 := hv2.below hb6
  clear k5 hb6
  rw [show decide (cl = cl) = true from decide_eq_true rfl]
  go_wp2
  go_ret
  exact RetV.bool (by simp) k6
end Go.Proofs
