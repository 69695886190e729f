/- ContourMoves, walked. -/
import Derived.Test.YtcfhhkdjdpkjpaaXM1
set_option linter.unusedVariables false
set_option linter.unusedSimpArgs false
namespace Go.Proofs
open Go.RowKit Go.Proofs.Mp Go.Lib

theorem map_take_succ {α β : Type} [Inhabited α] (f : α → β) {l : List α} {k : Nat} (h : k < l.length) : (l.map f).take (k + 1) = (l.map f).take k ++ [f l[k]!] := by
  rw [List.take_add_one, List.getElem?_map, List.getElem?_eq_getElem h, getElem!_pos l k h]
  rfl

set_option maxRecDepth 100000 in
set_option maxHeartbeats 16000000 in
theorem law_moves (t : Ht) (level up : Int) (q : Pt) (w : World) (hmax : t.v.length ≤ 9223372036854775807) (hR : RdI w t.a t.v) : Calls Try.prog 8 #[aggH t, .int .i64 level, .int .i64 up, aggP q] w (RetV w (.bool true)) := by
  obtain ⟨qx, qy⟩ := q
  unfold aggP
  dsimp only
  have hb0 : Below w.heap.size w ((w.alloc (.cells (celH t) 26)).alloc (.cells #[.int .i64 qx, .int .i64 qy] 23)) := bw2' _ _ _
  have hrow0 : RowH ((w.alloc (.cells (celH t) 26)).alloc (.cells #[.int .i64 qx, .int .i64 qy] 23)) w.heap.size t := (RowH.new w t).below (bw1 _ _)
  have hbx0 : BoxP ((w.alloc (.cells (celH t) 26)).alloc (.cells #[.int .i64 qx, .int .i64 qy] 23)) (w.heap.size + 1) (qx, qy) := by
    have := BoxP.new (w.alloc (.cells (celH t) 26)) (qx, qy)
    rwa [show (w.alloc (.cells (celH t) 26)).heap.size = w.heap.size + 1 by simp] at this
  have cA := Lib.hid law_awake
  have HRow := Lib.hid fun (W' : World) (hb : Below ((w.alloc (.cells (celH t) 26)).alloc (.cells #[.int .i64 qx, .int .i64 qy] 23)).heap.size ((w.alloc (.cells (celH t) 26)).alloc (.cells #[.int .i64 qx, .int .i64 qy] 23)) W') => And.intro (hrow0.below hb).cells (And.intro (hbx0.below hb).c0 (hbx0.below hb).c1)
  have HWz := Lib.hid fun (W' : World) (hb : Below ((w.alloc (.cells (celH t) 26)).alloc (.cells #[.int .i64 qx, .int .i64 qy] 23)).heap.size ((w.alloc (.cells (celH t) 26)).alloc (.cells #[.int .i64 qx, .int .i64 qy] 23)) W') => (hb0.trans (hb.mono hb0.size) : Below w.heap.size w W')
  have cF := Lib.hid fun W => law_few t W hmax
  by_cases hf : fewB t = true
  rotate_left
  · have hf : fewB t = false := by simpa using hf
    rw [hf] at cF
    clear hR hmax hf
    obtain ⟨x, y, tw, th, st, A, cc, v⟩ := t
    unfold aggH celH at *
    dsimp only at *
    go_enter Try.func8, Try.ntmps8
    go_upto_region 1 with fail
    generalize ((w.alloc (.cells #[.int .i64 x, .int .i64 y, .int .i64 tw, .int .i64 th, .int .i64 st, .slice A v.length cc] 26)).alloc (.cells #[.int .i64 qx, .int .i64 qy] 23)) = w0 at *
    clear hrow0 hbx0 hb0
    have k : Below w0.heap.size w0 w0 := Below.refl _ _
    obtain ⟨⟨r0, r1, r2, r3, r4, r5⟩, s0, s1⟩ := HRow.out _ k
    try dsimp only at r0 r1 r2 r3 r4 r5 s0 s1
    go_wp2_with fail
    refine (cF.out _).mono ?_
    rintro e w1 ⟨rfl, hb⟩
    replace k := k.trans (hb.mono k.size)
    clear hb
    clear r0 r1 r2 r3 r4 r5 s0 s1
    obtain ⟨⟨r0, r1, r2, r3, r4, r5⟩, s0, s1⟩ := HRow.out _ k
    try dsimp only at r0 r1 r2 r3 r4 r5 s0 s1
    go_wp2_with fail
    refine (cA.out _).mono ?_
    rintro e w2 ⟨rfl, hb⟩
    replace k := k.trans (hb.mono k.size)
    clear hb
    clear r0 r1 r2 r3 r4 r5 s0 s1
    go_wp2
    go_ret
    exact RetV.bool rfl (HWz.out _ k)
  have hl := (few_len hf).2.2
  rw [hf] at cF
  clear hf
  have cK := Lib.hid fun (W' : World) (hb : Below w.heap.size w W') => ref_checkH t W' (by omega) (hR.below hb)
  by_cases h0 : chkH t = 0
  rotate_left
  · clear hR hmax hl
    have hrn : (chkH t != 0) = true := by simpa using h0
    generalize chkH t = r at *
    obtain ⟨x, y, tw, th, st, A, cc, v⟩ := t
    unfold aggH celH at *
    dsimp only at *
    go_enter Try.func8, Try.ntmps8
    go_upto_region 1 with fail
    generalize ((w.alloc (.cells #[.int .i64 x, .int .i64 y, .int .i64 tw, .int .i64 th, .int .i64 st, .slice A v.length cc] 26)).alloc (.cells #[.int .i64 qx, .int .i64 qy] 23)) = w0 at *
    clear hrow0 hbx0 hb0
    have k : Below w0.heap.size w0 w0 := Below.refl _ _
    obtain ⟨⟨r0, r1, r2, r3, r4, r5⟩, s0, s1⟩ := HRow.out _ k
    try dsimp only at r0 r1 r2 r3 r4 r5 s0 s1
    go_wp2_with fail
    refine (cF.out _).mono ?_
    rintro e w1 ⟨rfl, hb⟩
    replace k := k.trans (hb.mono k.size)
    clear hb
    clear r0 r1 r2 r3 r4 r5 s0 s1
    obtain ⟨⟨r0, r1, r2, r3, r4, r5⟩, s0, s1⟩ := HRow.out _ k
    try dsimp only at r0 r1 r2 r3 r4 r5 s0 s1
    go_wp2_with fail
    refine (cK.out _ (HWz.out _ k)).mono ?_
    rintro e w2 ⟨rfl, hb⟩
    replace k := k.trans (hb.mono k.size)
    clear hb
    clear r0 r1 r2 r3 r4 r5 s0 s1
    obtain ⟨⟨r0, r1, r2, r3, r4, r5⟩, s0, s1⟩ := HRow.out _ k
    try dsimp only at r0 r1 r2 r3 r4 r5 s0 s1
    go_wp2_with fail
    refine (cA.out _).mono ?_
    rintro e w3 ⟨rfl, hb⟩
    replace k := k.trans (hb.mono k.size)
    clear hb
    clear r0 r1 r2 r3 r4 r5 s0 s1
    go_wp2
    go_ret
    exact RetV.bool rfl (HWz.out _ k)
  rw [h0] at cK
  by_cases n0 : level < -20000
  · clear hR hmax hl h0
    obtain ⟨x, y, tw, th, st, A, cc, v⟩ := t
    unfold aggH celH at *
    dsimp only at *
    go_enter Try.func8, Try.ntmps8
    go_upto_region 1 with fail
    generalize ((w.alloc (.cells #[.int .i64 x, .int .i64 y, .int .i64 tw, .int .i64 th, .int .i64 st, .slice A v.length cc] 26)).alloc (.cells #[.int .i64 qx, .int .i64 qy] 23)) = w0 at *
    clear hrow0 hbx0 hb0
    have k : Below w0.heap.size w0 w0 := Below.refl _ _
    obtain ⟨⟨r0, r1, r2, r3, r4, r5⟩, s0, s1⟩ := HRow.out _ k
    try dsimp only at r0 r1 r2 r3 r4 r5 s0 s1
    go_wp2_with fail
    refine (cF.out _).mono ?_
    rintro e w1 ⟨rfl, hb⟩
    replace k := k.trans (hb.mono k.size)
    clear hb
    clear r0 r1 r2 r3 r4 r5 s0 s1
    obtain ⟨⟨r0, r1, r2, r3, r4, r5⟩, s0, s1⟩ := HRow.out _ k
    try dsimp only at r0 r1 r2 r3 r4 r5 s0 s1
    go_wp2_with fail
    refine (cK.out _ (HWz.out _ k)).mono ?_
    rintro e w2 ⟨rfl, hb⟩
    replace k := k.trans (hb.mono k.size)
    clear hb
    clear r0 r1 r2 r3 r4 r5 s0 s1
    obtain ⟨⟨r0, r1, r2, r3, r4, r5⟩, s0, s1⟩ := HRow.out _ k
    try dsimp only at r0 r1 r2 r3 r4 r5 s0 s1
    go_wp2_with fail
    refine (cA.out _).mono ?_
    rintro e w3 ⟨rfl, hb⟩
    replace k := k.trans (hb.mono k.size)
    clear hb
    clear r0 r1 r2 r3 r4 r5 s0 s1
    go_wp2
    go_ret
    exact RetV.bool rfl (HWz.out _ k)
  by_cases n1 : 20000 < level
  · clear hR hmax hl h0
    obtain ⟨x, y, tw, th, st, A, cc, v⟩ := t
    unfold aggH celH at *
    dsimp only at *
    go_enter Try.func8, Try.ntmps8
    go_upto_region 1 with fail
    generalize ((w.alloc (.cells #[.int .i64 x, .int .i64 y, .int .i64 tw, .int .i64 th, .int .i64 st, .slice A v.length cc] 26)).alloc (.cells #[.int .i64 qx, .int .i64 qy] 23)) = w0 at *
    clear hrow0 hbx0 hb0
    have k : Below w0.heap.size w0 w0 := Below.refl _ _
    obtain ⟨⟨r0, r1, r2, r3, r4, r5⟩, s0, s1⟩ := HRow.out _ k
    try dsimp only at r0 r1 r2 r3 r4 r5 s0 s1
    go_wp2_with fail
    refine (cF.out _).mono ?_
    rintro e w1 ⟨rfl, hb⟩
    replace k := k.trans (hb.mono k.size)
    clear hb
    clear r0 r1 r2 r3 r4 r5 s0 s1
    obtain ⟨⟨r0, r1, r2, r3, r4, r5⟩, s0, s1⟩ := HRow.out _ k
    try dsimp only at r0 r1 r2 r3 r4 r5 s0 s1
    go_wp2_with fail
    refine (cK.out _ (HWz.out _ k)).mono ?_
    rintro e w2 ⟨rfl, hb⟩
    replace k := k.trans (hb.mono k.size)
    clear hb
    clear r0 r1 r2 r3 r4 r5 s0 s1
    obtain ⟨⟨r0, r1, r2, r3, r4, r5⟩, s0, s1⟩ := HRow.out _ k
    try dsimp only at r0 r1 r2 r3 r4 r5 s0 s1
    go_wp2_with fail
    refine (cA.out _).mono ?_
    rintro e w3 ⟨rfl, hb⟩
    replace k := k.trans (hb.mono k.size)
    clear hb
    clear r0 r1 r2 r3 r4 r5 s0 s1
    go_wp2
    go_ret
    exact RetV.bool rfl (HWz.out _ k)
  by_cases n2 : up < -20000
  · clear hR hmax hl h0
    obtain ⟨x, y, tw, th, st, A, cc, v⟩ := t
    unfold aggH celH at *
    dsimp only at *
    go_enter Try.func8, Try.ntmps8
    go_upto_region 1 with fail
    generalize ((w.alloc (.cells #[.int .i64 x, .int .i64 y, .int .i64 tw, .int .i64 th, .int .i64 st, .slice A v.length cc] 26)).alloc (.cells #[.int .i64 qx, .int .i64 qy] 23)) = w0 at *
    clear hrow0 hbx0 hb0
    have k : Below w0.heap.size w0 w0 := Below.refl _ _
    obtain ⟨⟨r0, r1, r2, r3, r4, r5⟩, s0, s1⟩ := HRow.out _ k
    try dsimp only at r0 r1 r2 r3 r4 r5 s0 s1
    go_wp2_with fail
    refine (cF.out _).mono ?_
    rintro e w1 ⟨rfl, hb⟩
    replace k := k.trans (hb.mono k.size)
    clear hb
    clear r0 r1 r2 r3 r4 r5 s0 s1
    obtain ⟨⟨r0, r1, r2, r3, r4, r5⟩, s0, s1⟩ := HRow.out _ k
    try dsimp only at r0 r1 r2 r3 r4 r5 s0 s1
    go_wp2_with fail
    refine (cK.out _ (HWz.out _ k)).mono ?_
    rintro e w2 ⟨rfl, hb⟩
    replace k := k.trans (hb.mono k.size)
    clear hb
    clear r0 r1 r2 r3 r4 r5 s0 s1
    obtain ⟨⟨r0, r1, r2, r3, r4, r5⟩, s0, s1⟩ := HRow.out _ k
    try dsimp only at r0 r1 r2 r3 r4 r5 s0 s1
    go_wp2_with fail
    refine (cA.out _).mono ?_
    rintro e w3 ⟨rfl, hb⟩
    replace k := k.trans (hb.mono k.size)
    clear hb
    clear r0 r1 r2 r3 r4 r5 s0 s1
    go_wp2
    go_ret
    exact RetV.bool rfl (HWz.out _ k)
  by_cases n3 : 20000 < up
  · clear hR hmax hl h0
    obtain ⟨x, y, tw, th, st, A, cc, v⟩ := t
    unfold aggH celH at *
    dsimp only at *
    go_enter Try.func8, Try.ntmps8
    go_upto_region 1 with fail
    generalize ((w.alloc (.cells #[.int .i64 x, .int .i64 y, .int .i64 tw, .int .i64 th, .int .i64 st, .slice A v.length cc] 26)).alloc (.cells #[.int .i64 qx, .int .i64 qy] 23)) = w0 at *
    clear hrow0 hbx0 hb0
    have k : Below w0.heap.size w0 w0 := Below.refl _ _
    obtain ⟨⟨r0, r1, r2, r3, r4, r5⟩, s0, s1⟩ := HRow.out _ k
    try dsimp only at r0 r1 r2 r3 r4 r5 s0 s1
    go_wp2_with fail
    refine (cF.out _).mono ?_
    rintro e w1 ⟨rfl, hb⟩
    replace k := k.trans (hb.mono k.size)
    clear hb
    clear r0 r1 r2 r3 r4 r5 s0 s1
    obtain ⟨⟨r0, r1, r2, r3, r4, r5⟩, s0, s1⟩ := HRow.out _ k
    try dsimp only at r0 r1 r2 r3 r4 r5 s0 s1
    go_wp2_with fail
    refine (cK.out _ (HWz.out _ k)).mono ?_
    rintro e w2 ⟨rfl, hb⟩
    replace k := k.trans (hb.mono k.size)
    clear hb
    clear r0 r1 r2 r3 r4 r5 s0 s1
    obtain ⟨⟨r0, r1, r2, r3, r4, r5⟩, s0, s1⟩ := HRow.out _ k
    try dsimp only at r0 r1 r2 r3 r4 r5 s0 s1
    go_wp2_with fail
    refine (cA.out _).mono ?_
    rintro e w3 ⟨rfl, hb⟩
    replace k := k.trans (hb.mono k.size)
    clear hb
    clear r0 r1 r2 r3 r4 r5 s0 s1
    go_wp2
    go_ret
    exact RetV.bool rfl (HWz.out _ k)
  by_cases n4 : qx < -2097152
  · clear hR hmax hl h0
    obtain ⟨x, y, tw, th, st, A, cc, v⟩ := t
    unfold aggH celH at *
    dsimp only at *
    go_enter Try.func8, Try.ntmps8
    go_upto_region 1 with fail
    generalize ((w.alloc (.cells #[.int .i64 x, .int .i64 y, .int .i64 tw, .int .i64 th, .int .i64 st, .slice A v.length cc] 26)).alloc (.cells #[.int .i64 qx, .int .i64 qy] 23)) = w0 at *
    clear hrow0 hbx0 hb0
    have k : Below w0.heap.size w0 w0 := Below.refl _ _
    obtain ⟨⟨r0, r1, r2, r3, r4, r5⟩, s0, s1⟩ := HRow.out _ k
    try dsimp only at r0 r1 r2 r3 r4 r5 s0 s1
    go_wp2_with fail
    refine (cF.out _).mono ?_
    rintro e w1 ⟨rfl, hb⟩
    replace k := k.trans (hb.mono k.size)
    clear hb
    clear r0 r1 r2 r3 r4 r5 s0 s1
    obtain ⟨⟨r0, r1, r2, r3, r4, r5⟩, s0, s1⟩ := HRow.out _ k
    try dsimp only at r0 r1 r2 r3 r4 r5 s0 s1
    go_wp2_with fail
    refine (cK.out _ (HWz.out _ k)).mono ?_
    rintro e w2 ⟨rfl, hb⟩
    replace k := k.trans (hb.mono k.size)
    clear hb
    clear r0 r1 r2 r3 r4 r5 s0 s1
    obtain ⟨⟨r0, r1, r2, r3, r4, r5⟩, s0, s1⟩ := HRow.out _ k
    try dsimp only at r0 r1 r2 r3 r4 r5 s0 s1
    go_wp2_with fail
    refine (cA.out _).mono ?_
    rintro e w3 ⟨rfl, hb⟩
    replace k := k.trans (hb.mono k.size)
    clear hb
    clear r0 r1 r2 r3 r4 r5 s0 s1
    go_wp2
    go_ret
    exact RetV.bool rfl (HWz.out _ k)
  by_cases n5 : 2097152 < qx
  · clear hR hmax hl h0
    obtain ⟨x, y, tw, th, st, A, cc, v⟩ := t
    unfold aggH celH at *
    dsimp only at *
    go_enter Try.func8, Try.ntmps8
    go_upto_region 1 with fail
    generalize ((w.alloc (.cells #[.int .i64 x, .int .i64 y, .int .i64 tw, .int .i64 th, .int .i64 st, .slice A v.length cc] 26)).alloc (.cells #[.int .i64 qx, .int .i64 qy] 23)) = w0 at *
    clear hrow0 hbx0 hb0
    have k : Below w0.heap.size w0 w0 := Below.refl _ _
    obtain ⟨⟨r0, r1, r2, r3, r4, r5⟩, s0, s1⟩ := HRow.out _ k
    try dsimp only at r0 r1 r2 r3 r4 r5 s0 s1
    go_wp2_with fail
    refine (cF.out _).mono ?_
    rintro e w1 ⟨rfl, hb⟩
    replace k := k.trans (hb.mono k.size)
    clear hb
    clear r0 r1 r2 r3 r4 r5 s0 s1
    obtain ⟨⟨r0, r1, r2, r3, r4, r5⟩, s0, s1⟩ := HRow.out _ k
    try dsimp only at r0 r1 r2 r3 r4 r5 s0 s1
    go_wp2_with fail
    refine (cK.out _ (HWz.out _ k)).mono ?_
    rintro e w2 ⟨rfl, hb⟩
    replace k := k.trans (hb.mono k.size)
    clear hb
    clear r0 r1 r2 r3 r4 r5 s0 s1
    obtain ⟨⟨r0, r1, r2, r3, r4, r5⟩, s0, s1⟩ := HRow.out _ k
    try dsimp only at r0 r1 r2 r3 r4 r5 s0 s1
    go_wp2_with fail
    refine (cA.out _).mono ?_
    rintro e w3 ⟨rfl, hb⟩
    replace k := k.trans (hb.mono k.size)
    clear hb
    clear r0 r1 r2 r3 r4 r5 s0 s1
    go_wp2
    go_ret
    exact RetV.bool rfl (HWz.out _ k)
  by_cases n6 : qy < -2097152
  · clear hR hmax hl h0
    obtain ⟨x, y, tw, th, st, A, cc, v⟩ := t
    unfold aggH celH at *
    dsimp only at *
    go_enter Try.func8, Try.ntmps8
    go_upto_region 1 with fail
    generalize ((w.alloc (.cells #[.int .i64 x, .int .i64 y, .int .i64 tw, .int .i64 th, .int .i64 st, .slice A v.length cc] 26)).alloc (.cells #[.int .i64 qx, .int .i64 qy] 23)) = w0 at *
    clear hrow0 hbx0 hb0
    have k : Below w0.heap.size w0 w0 := Below.refl _ _
    obtain ⟨⟨r0, r1, r2, r3, r4, r5⟩, s0, s1⟩ := HRow.out _ k
    try dsimp only at r0 r1 r2 r3 r4 r5 s0 s1
    go_wp2_with fail
    refine (cF.out _).mono ?_
    rintro e w1 ⟨rfl, hb⟩
    replace k := k.trans (hb.mono k.size)
    clear hb
    clear r0 r1 r2 r3 r4 r5 s0 s1
    obtain ⟨⟨r0, r1, r2, r3, r4, r5⟩, s0, s1⟩ := HRow.out _ k
    try dsimp only at r0 r1 r2 r3 r4 r5 s0 s1
    go_wp2_with fail
    refine (cK.out _ (HWz.out _ k)).mono ?_
    rintro e w2 ⟨rfl, hb⟩
    replace k := k.trans (hb.mono k.size)
    clear hb
    clear r0 r1 r2 r3 r4 r5 s0 s1
    obtain ⟨⟨r0, r1, r2, r3, r4, r5⟩, s0, s1⟩ := HRow.out _ k
    try dsimp only at r0 r1 r2 r3 r4 r5 s0 s1
    go_wp2_with fail
    refine (cA.out _).mono ?_
    rintro e w3 ⟨rfl, hb⟩
    replace k := k.trans (hb.mono k.size)
    clear hb
    clear r0 r1 r2 r3 r4 r5 s0 s1
    go_wp2
    go_ret
    exact RetV.bool rfl (HWz.out _ k)
  by_cases n7 : 2097152 < qy
  · clear hR hmax hl h0
    obtain ⟨x, y, tw, th, st, A, cc, v⟩ := t
    unfold aggH celH at *
    dsimp only at *
    go_enter Try.func8, Try.ntmps8
    go_upto_region 1 with fail
    generalize ((w.alloc (.cells #[.int .i64 x, .int .i64 y, .int .i64 tw, .int .i64 th, .int .i64 st, .slice A v.length cc] 26)).alloc (.cells #[.int .i64 qx, .int .i64 qy] 23)) = w0 at *
    clear hrow0 hbx0 hb0
    have k : Below w0.heap.size w0 w0 := Below.refl _ _
    obtain ⟨⟨r0, r1, r2, r3, r4, r5⟩, s0, s1⟩ := HRow.out _ k
    try dsimp only at r0 r1 r2 r3 r4 r5 s0 s1
    go_wp2_with fail
    refine (cF.out _).mono ?_
    rintro e w1 ⟨rfl, hb⟩
    replace k := k.trans (hb.mono k.size)
    clear hb
    clear r0 r1 r2 r3 r4 r5 s0 s1
    obtain ⟨⟨r0, r1, r2, r3, r4, r5⟩, s0, s1⟩ := HRow.out _ k
    try dsimp only at r0 r1 r2 r3 r4 r5 s0 s1
    go_wp2_with fail
    refine (cK.out _ (HWz.out _ k)).mono ?_
    rintro e w2 ⟨rfl, hb⟩
    replace k := k.trans (hb.mono k.size)
    clear hb
    clear r0 r1 r2 r3 r4 r5 s0 s1
    obtain ⟨⟨r0, r1, r2, r3, r4, r5⟩, s0, s1⟩ := HRow.out _ k
    try dsimp only at r0 r1 r2 r3 r4 r5 s0 s1
    go_wp2_with fail
    refine (cA.out _).mono ?_
    rintro e w3 ⟨rfl, hb⟩
    replace k := k.trans (hb.mono k.size)
    clear hb
    clear r0 r1 r2 r3 r4 r5 s0 s1
    go_wp2
    go_ret
    exact RetV.bool rfl (HWz.out _ k)
  obtain ⟨⟨x1b, x2b, y1b, y2b⟩, -, -, -, -, -, -, -, -, hvb⟩ := chkH_zero h0
  have HVb := Lib.hid hvb
  have HV := Lib.hid fun i (hi : i < t.v.length) => RdI.at_ hR (i := i) hi
  obtain ⟨n, hn⟩ : ∃ n, (linesT t level).length = n := ⟨_, rfl⟩
  have HNl := Lib.hid hn
  have hns : n ≤ 12288 := by rw [← hn]; exact linesT_len t level
  have cL := Lib.hid fun (W' : World) (hb : Below w.heap.size w W') => cl_lines (t := t) level hn hl (hR.below hb)
  rw [h0] at cL
  have HBig := Lib.hid fun i (hi : i < (linesT t level).length) => (show 2 ≤ (linesT t level)[i]!.2.length ∧ (linesT t level)[i]!.2.length ≤ 1000000000 ∧ ∀ k, k < (linesT t level)[i]!.2.length → -100000000000 ≤ (linesT t level)[i]!.2[k]!.1 ∧ (linesT t level)[i]!.2[k]!.1 ≤ 100000000000 ∧ -100000000000 ≤ (linesT t level)[i]!.2[k]!.2 ∧ (linesT t level)[i]!.2[k]!.2 ≤ 100000000000 from by
    have hm : (linesT t level)[i]! ∈ linesT t level := by rw [getElem!_pos _ i hi]; exact List.getElem_mem hi
    exact ⟨line_two h0 hm, (smallL_iff (linesT_small t level)).2 _ hm, fun k hk => line_big h0 hm hk⟩)
  obtain ⟨VS, hVS⟩ : ∃ VS, t.v.map (· + up) = VS := ⟨_, rfl⟩
  have hVl : VS.length = t.v.length := by rw [← hVS, List.length_map]
  have HVT := Lib.hid fun k (hk : k < t.v.length) => (show VS.take (k + 1) = VS.take k ++ [t.v[k]! + up] from by rw [← hVS]; exact map_take_succ (· + up) hk)
  have HVA := Lib.hid (show VS.take t.v.length = VS from by rw [← hVl]; exact List.take_length)
  have cKx := Lib.hid fun (A' : Option Addr) (c' : Nat) (W' : World) (hr : RdI W' A' VS) => ref_checkH ⟨t.x + qx, t.y + qy, t.w, t.h, t.st, A', c', VS⟩ W' (by dsimp only; omega) hr
  have cLx := Lib.hid fun (A' : Option Addr) (c' : Nat) (hz : chkH ⟨t.x + qx, t.y + qy, t.w, t.h, t.st, A', c', VS⟩ = 0) (W' : World) (hr : RdI W' A' VS) => (show Calls Try.prog 14 #[aggH ⟨t.x + qx, t.y + qy, t.w, t.h, t.st, A', c', VS⟩, .int .i64 (level + up)] W' (RetLE W' ((linesT t level).map (shL (qx, qy) (level + up))) 0) from by
    have := con_Lines ⟨t.x + qx, t.y + qy, t.w, t.h, t.st, A', c', VS⟩ (level + up) W' (by dsimp only; omega) hr
    rw [moves_law (q := (qx, qy)) h0 hz hVS.symm rfl rfl rfl rfl rfl, hz] at this
    exact this)
  have HSm := Lib.hid fun (A' : Option Addr) (c' : Nat) (hz : chkH ⟨t.x + qx, t.y + qy, t.w, t.h, t.st, A', c', VS⟩ = 0) => (show smallL ((linesT t level).map (shL (qx, qy) (level + up))) = true from by
    have := linesT_small ⟨t.x + qx, t.y + qy, t.w, t.h, t.st, A', c', VS⟩ (level + up)
    rwa [moves_law (q := (qx, qy)) h0 hz hVS.symm rfl rfl rfl rfl rfl] at this)
  have HLT := Lib.hid fun j (hj : j < (linesT t level).length) => map_take_succ (shL (qx, qy) (level + up)) hj
  have HLA := Lib.hid (show ((linesT t level).map (shL (qx, qy) (level + up))).take n = (linesT t level).map (shL (qx, qy) (level + up)) from by rw [← hn]; exact List.take_of_length_le (by simp))
  have hvl : t.v.length ≤ 200 := hl
  have HVl := Lib.hid hVl
  clear hvb hR hmax hl h0 hn hVS hVl
  generalize (linesT t level).map (shL (qx, qy) (level + up)) = WL at *
  generalize linesT t level = L at *
  obtain ⟨x, y, tw, th, st, A, cc, v⟩ := t
  unfold aggH celH at *
  dsimp only at *
  have hwx := IntWalk.i64_in (x + qx) (by omega)
  have hwy := IntWalk.i64_in (y + qy) (by omega)
  have hwl := IntWalk.i64_in (level + up) (by omega)
  go_enter Try.func8, Try.ntmps8
  go_upto_region 1 with fail
  generalize ((w.alloc (.cells #[.int .i64 x, .int .i64 y, .int .i64 tw, .int .i64 th, .int .i64 st, .slice A v.length cc] 26)).alloc (.cells #[.int .i64 qx, .int .i64 qy] 23)) = w0 at *
  clear hrow0 hbx0 hb0
  have k : Below w0.heap.size w0 w0 := Below.refl _ _
  obtain ⟨⟨r0, r1, r2, r3, r4, r5⟩, s0, s1⟩ := HRow.out _ k
  try dsimp only at r0 r1 r2 r3 r4 r5 s0 s1
  go_wp2_with fail
  refine (cF.out _).mono ?_
  rintro e w1 ⟨rfl, hb⟩
  replace k := k.trans (hb.mono k.size)
  clear hb
  clear r0 r1 r2 r3 r4 r5 s0 s1
  obtain ⟨⟨r0, r1, r2, r3, r4, r5⟩, s0, s1⟩ := HRow.out _ k
  try dsimp only at r0 r1 r2 r3 r4 r5 s0 s1
  go_wp2_with fail
  refine (cK.out _ (HWz.out _ k)).mono ?_
  rintro e w2 ⟨rfl, hb⟩
  replace k := k.trans (hb.mono k.size)
  clear hb
  clear r0 r1 r2 r3 r4 r5 s0 s1
  obtain ⟨⟨r0, r1, r2, r3, r4, r5⟩, s0, s1⟩ := HRow.out _ k
  try dsimp only at r0 r1 r2 r3 r4 r5 s0 s1
  go_upto_region 4 with (refine Try.storeNew 26 _ #[.int .i64 x, .int .i64 y, .int .i64 tw, .int .i64 th, .int .i64 st, .slice A v.length cc] rfl _ _ rfl rfl rfl Try.size26 rfl rfl ?_)
  clear r0 r1 r2 r3 r4 r5 s0 s1 n0 n1 n2 n3 n4 n5 n6 n7
  have hB : Bx (w2.alloc (.cells #[.int .i64 x, .int .i64 y, .int .i64 tw, .int .i64 th, .int .i64 st, .slice A v.length cc] 26)) w2.heap.size 26 [.int .i64 x, .int .i64 y, .int .i64 tw, .int .i64 th, .int .i64 st, .slice A v.length cc] := Bx.new w2 rfl
  have kb : Below w2.heap.size w2 (w2.alloc (.cells #[.int .i64 x, .int .i64 y, .int .i64 tw, .int .i64 th, .int .i64 st, .slice A v.length cc] 26)) := bw1 _ _
  have hle := k.size
  replace k := k.trans (kb.mono hle)
  clear kb
  generalize (w2.alloc (.cells #[.int .i64 x, .int .i64 y, .int .i64 tw, .int .i64 th, .int .i64 st, .slice A v.length cc] 26)) = w3 at *
  generalize w2.heap.size = b at *
  have HLe := Lib.hid hle
  obtain ⟨⟨r0, r1, r2, r3, r4, r5⟩, s0, s1⟩ := HRow.out _ k
  try dsimp only at r0 r1 r2 r3 r4 r5 s0 s1
  go_wp2_with fail
  refine (law_pt _ _ _).mono ?_
  rintro e w4 ⟨rfl, hb⟩
  replace hB := hB.below hb
  replace k := k.trans (hb.mono k.size)
  clear hb r0 r1 r2 r3 r4 r5 s0 s1
  have c0 := hB.cell 0
  have c1 := hB.cell 1
  simp only [List.getElem?_cons_succ, List.getElem?_cons_zero] at c0 c1
  have f0 := hB.frozen 0
  have f1 := hB.frozen 1
  have hlt := hB.lt
  go_upto_region 5 with fail
  clear c0 c1 f0 f1 hlt
  replace k := (hB.set 0 (.int .i64 (x + qx))).setB (hB.setB k hle 0 (.int .i64 (x + qx))) hle 1 (.int .i64 (y + qy))
  replace hB := (hB.set 0 (.int .i64 (x + qx))).set 1 (.int .i64 (y + qy))
  simp only [List.set_cons_zero, List.set_cons_succ] at hB
  generalize ((w4.setCell ⟨b, 0, none⟩ (.int .i64 (x + qx))).setCell ⟨b, 1, none⟩ (.int .i64 (y + qy))) = w5 at *
  have c5 := hB.cell 5
  simp only [List.getElem?_cons_succ, List.getElem?_cons_zero] at c5
  have f5 := hB.frozen 5
  have hlt := hB.lt
  go_upto_block 0 with fail
  clear c5 f5 hlt
  replace k := hB.setB k hle 5 (.slice none 0 0)
  replace hB := hB.set 5 (.slice none 0 0)
  simp only [List.set_cons_zero, List.set_cons_succ] at hB
  go_wp2_with fail
  generalize (w5.setCell ⟨b, 5, none⟩ (.slice none 0 0)) = wz at *
  have HK := Lib.hid k
  clear k hle
  go_loopw [10] (fun i wr => ∃ (k : Nat) (V : Value), k ≤ v.length ∧ i = .int .i64 k ∧ Hid (Bx wr b 26 [.int .i64 (x + qx), .int .i64 (y + qy), .int .i64 tw, .int .i64 th, .int .i64 st, V]) ∧ Hid (OwnI 3 wr (b + 1) V (VS.take k)) ∧ Below b wz wr) (fun i _ => v.length - (intOf i).toNat)
  case atStart => exact ⟨0, .slice none 0 0, by omega, rfl, Lib.hid hB, Lib.hid (Own.nil _ _), Below.refl _ _⟩
  case round =>
    obtain ⟨k, V, hk, rfl, hBx, hOw, kb⟩ := hrel
    clear hB
    generalize wr = wi at *
    have HKi := Lib.hid kb
    have hki := HK.out.trans (kb.mono HLe.out)
    clear kb
    by_cases hlt : k < v.length
    · have hli : (k : Int) < (v.length : Int) := by omega
      have hk0 : (0 : Int) ≤ (k : Int) := by omega
      have HT := Lib.hid (HVT.out k hlt)
      obtain ⟨vb1, vb2⟩ := HVb.out k hlt
      obtain ⟨bv, ov, hA, hcv⟩ := HV.out k hlt
      have HCv := Lib.hid fun (W' : World) (hb : Below b wi W') => hcv W' (HWz.out _ (hki.trans (hb.mono HLe.out)))
      subst hA
      clear hcv
      generalize v[k]! = zk at *
      have hlen : (VS.take k).length ≤ 1000000000 := by rw [List.length_take]; omega
      generalize VS.take k = LK at *
      have hwv := IntWalk.i64_in (zk + up) (by omega)
      have HRi := Lib.hid fun (W' : World) (hb : Below b wi W') => HRow.out W' (hki.trans (hb.mono HLe.out))
      try dsimp only at HRi
      obtain ⟨⟨r0, r1, r2, r3, r4, r5⟩, -, -⟩ := HRi.out wi (Below.refl _ _)
      go_upto_region 9 with fail
      clear r0 r1 r2 r3 r4 r5
      as_aux_lemma =>
        have hS0 : (fun W' : World => Below b wi W') wi.drew := (Below.refl _ _).drew
        have fO : OwnI 3 wi.drew (b + 1) V LK := hOw.out
        have fR : Bx wi.drew b 26 [.int .i64 (x + qx), .int .i64 (y + qy), .int .i64 tw, .int .i64 th, .int .i64 st, V] := hBx.out
        clear hOw hBx
        refine wp_region_held_drew (S := (fun W' : World => Below b wi W')) (by kernel_rfl) hS0 (fun hHeld => ?_)
        clear hHeld
        generalize wi.drew = wy at *
        refine wpAnyH_take (i := 0) (oi := ⟨some 87, _, _, _, _, _⟩) (v := ?vra1) rfl (by kernel_rfl) (by kernel_rfl) (by kernel_rfl) (fun _ _ _ h => h) (Or.inl ⟨by kernel_rfl, ?hyra1⟩) (by assumption) ?restra1
        case hyra1 => (intro W hSw; (try dsimp only at hSw); go_simp; try with_reducible rfl)
        case' restra1 => try simp only [Act.put, List.setIfInBounds_toArray, List.set_cons_zero, List.set_cons_succ]
        refine wpAnyH_take (i := 2) (oi := ⟨some 89, _, _, _, _, _⟩) (v := ?vra2) rfl (by kernel_rfl) (by kernel_rfl) (by kernel_rfl) (fun _ _ _ h => h) (Or.inl ⟨by kernel_rfl, ?hyra2⟩) (by assumption) ?restra2
        case hyra2 => (intro W hSw; (try dsimp only at hSw); go_simp; try with_reducible rfl)
        case' restra2 => try simp only [Act.put, List.setIfInBounds_toArray, List.set_cons_zero, List.set_cons_succ]
        refine wpAnyH_take (i := 3) (oi := ⟨some 90, _, _, _, _, _⟩) (v := ?vra3) rfl (by kernel_rfl) (by kernel_rfl) (by kernel_rfl) (fun _ _ _ h => h) (Or.inl ⟨by kernel_rfl, ?hyra3⟩) (by assumption) ?restra3
        case hyra3 => (intro W hSw; obtain ⟨⟨r0, r1, r2, r3, r4, r5⟩, -, -⟩ := HRi.out W hSw; clear hSw; (try dsimp only at hSw); go_simp; try with_reducible rfl)
        case' restra3 => try simp only [Act.put, List.setIfInBounds_toArray, List.set_cons_zero, List.set_cons_succ]
        refine wpAnyH_take (i := 4) (oi := ⟨some 91, _, _, _, _, _⟩) (v := ?vra4) rfl (by kernel_rfl) (by kernel_rfl) (by kernel_rfl) (fun _ _ _ h => h) (Or.inl ⟨by kernel_rfl, ?hyra4⟩) (by assumption) ?restra4
        case hyra4 => (intro W hSw; (try dsimp only at hSw); go_simp; try with_reducible rfl)
        case' restra4 => try simp only [Act.put, List.setIfInBounds_toArray, List.set_cons_zero, List.set_cons_succ]
        refine wpAnyH_take (i := 5) (oi := ⟨some 92, _, _, _, _, _⟩) (v := ?vra5) rfl (by kernel_rfl) (by kernel_rfl) (by kernel_rfl) (fun _ _ _ h => h) (Or.inl ⟨by kernel_rfl, ?hyra5⟩) (by assumption) ?restra5
        case hyra5 => (intro W hSw; (try dsimp only at hSw); go_simp; try with_reducible rfl)
        case' restra5 => try simp only [Act.put, List.setIfInBounds_toArray, List.set_cons_zero, List.set_cons_succ]
        refine wpAnyH_take (i := 6) (oi := ⟨some 93, _, _, _, _, _⟩) (v := ?vra6) rfl (by kernel_rfl) (by kernel_rfl) (by kernel_rfl) (fun _ _ _ h => h) (Or.inl ⟨by kernel_rfl, ?hyra6⟩) (by assumption) ?restra6
        case hyra6 => (intro W hSw; have d0 := HCv.out W hSw; clear hSw; (try dsimp only at hSw); go_simp; try with_reducible rfl)
        case' restra6 => try simp only [Act.put, List.setIfInBounds_toArray, List.set_cons_zero, List.set_cons_succ]
        refine wpAnyH_take (i := 7) (oi := ⟨some 94, _, _, _, _, _⟩) (v := ?vra7) rfl (by kernel_rfl) (by kernel_rfl) (by kernel_rfl) (fun _ _ _ h => h) (Or.inl ⟨by kernel_rfl, ?hyra7⟩) (by assumption) ?restra7
        case hyra7 => (intro W hSw; (try dsimp only at hSw); go_simp; try with_reducible rfl)
        case' restra7 => try simp only [Act.put, List.setIfInBounds_toArray, List.set_cons_zero, List.set_cons_succ]
        refine wpAnyH_take (i := 8) (oi := ⟨some 95, _, _, _, _, _⟩) (v := ?vra8) rfl (by kernel_rfl) (by kernel_rfl) (by kernel_rfl) (fun _ _ _ h => h) (Or.inl ⟨by kernel_rfl, ?hyra8⟩) (by assumption) ?restra8
        case hyra8 => (intro W hSw; (try dsimp only at hSw); go_simp; try with_reducible rfl)
        case' restra8 => try simp only [Act.put, List.setIfInBounds_toArray, List.set_cons_zero, List.set_cons_succ]
        refine' wpAnyH_share (fun H f l (act : Value → Act) => ∀ (lv1 : Value) (WX : World), OwnI 3 WX (b + 1) V LK → Bx WX b 26 [.int .i64 (x + qx), .int .i64 (y + qy), .int .i64 tw, .int .i64 th, .int .i64 st, V] → SlI1 WX lv1 (zk + up) → (fun W' : World => Below b wi W') WX → H f l (act lv1) WX) (fun tailra9 => ?mtailra9) ?ttailra9
        case mtailra9 =>
          refine wpAnyH_ready (rs := [1, 9]) (by kernel_rfl) (by simp) ?_
          refine AllReadyH.cons (o := ⟨some 88, _, _, _, _, _⟩) rfl (fun K hK => ?_) ?_
          · skip
            have hcc := fR.cell 5
            simp only [List.getElem?_cons_succ, List.getElem?_cons_zero] at hcc
            go_simp
            clear hcc
            refine hK.out _ _ hS0 (fun hHeld => ?_)
            clear hK hHeld K
            try simp only [Act.put, List.setIfInBounds_toArray, List.set_cons_zero, List.set_cons_succ]
            refine wpAnyH_ready (rs := [9]) (by kernel_rfl) (by simp) ?_
            refine AllReadyH.cons (o := ⟨some 96, _, _, _, _, _⟩) rfl (fun K hK => ?_) AllReadyH.nil
            go_simp
            have fL := SlI1.new wy (zk + up)
            have hSWra1 := hS0.alloc (Nat.le_of_lt fR.lt) (.cells #[.int .i64 (zk + up)] 3)
            replace fO := fO.alloc (.cells #[.int .i64 (zk + up)] 3)
            replace fR := fR.alloc (.cells #[.int .i64 (zk + up)] 3)
            refine hK.out _ _ hSWra1 (fun hHeld => ?_)
            clear hK hHeld K
            try clear hS0
            try simp only [Act.put, List.setIfInBounds_toArray, List.set_cons_zero, List.set_cons_succ]
            generalize (wy.alloc (.cells #[.int .i64 (zk + up)] 3)) = Wra1 at fL fO fR hSWra1 ⊢
            generalize Value.slice (some ⟨wy.heap.size, 0, none⟩) 1 1 = lv1 at fL ⊢
            exact wpAnyH_cast rfl rfl (tailra9 lv1 Wra1 fO fR fL hSWra1)
          refine AllReadyH.cons (o := ⟨some 96, _, _, _, _, _⟩) rfl (fun K hK => ?_) AllReadyH.nil
          go_simp
          have fL := SlI1.new wy (zk + up)
          have hSWra2 := hS0.alloc (Nat.le_of_lt fR.lt) (.cells #[.int .i64 (zk + up)] 3)
          replace fO := fO.alloc (.cells #[.int .i64 (zk + up)] 3)
          replace fR := fR.alloc (.cells #[.int .i64 (zk + up)] 3)
          refine hK.out _ _ hSWra2 (fun hHeld => ?_)
          clear hK hHeld K
          try clear hS0
          try simp only [Act.put, List.setIfInBounds_toArray, List.set_cons_zero, List.set_cons_succ]
          generalize (wy.alloc (.cells #[.int .i64 (zk + up)] 3)) = Wra2 at fL fO fR hSWra2 ⊢
          generalize Value.slice (some ⟨wy.heap.size, 0, none⟩) 1 1 = lv1 at fL ⊢
          refine wpAnyH_ready (rs := [1]) (by kernel_rfl) (by simp) ?_
          refine AllReadyH.cons (o := ⟨some 88, _, _, _, _, _⟩) rfl (fun K hK => ?_) AllReadyH.nil
          have hcc := fR.cell 5
          simp only [List.getElem?_cons_succ, List.getElem?_cons_zero] at hcc
          go_simp
          clear hcc
          refine hK.out _ _ hSWra2 (fun hHeld => ?_)
          clear hK hHeld K
          try simp only [Act.put, List.setIfInBounds_toArray, List.set_cons_zero, List.set_cons_succ]
          exact wpAnyH_cast (by kernel_rfl) (by kernel_rfl) (tailra9 lv1 Wra2 fO fR fL hSWra2)
        case ttailra9 =>
          try clear fO
          try clear fR
          try clear hS0
          intro lv1 Wra3 fO fR fL hSWra3
          refine wpAnyH_ready (rs := [10]) (by kernel_rfl) (by simp) ?_
          refine AllReadyH.cons (o := ⟨some 97, _, _, _, _, _⟩) rfl (fun K hK => ?_) AllReadyH.nil
          refine SlI1.app fO fL rfl _ _ rfl rfl rfl hlen fR.lt (fun v2 Wra4 fO2 hb2 => ?_)
          replace fR := Bx.belowS fR hb2
          have hSWra4 := hSWra3.trans (hb2.mono (Nat.le_succ _))
          clear fO fL hb2 hSWra3
          refine hK.out _ _ hSWra4 (fun hHeld => ?_)
          clear hK hHeld K
          try simp only [Act.put, List.setIfInBounds_toArray, List.set_cons_zero, List.set_cons_succ]
          refine wpAnyH_take (i := 11) (oi := ⟨some 98, _, _, _, _, _⟩) (v := ?vra10) rfl (by kernel_rfl) (by kernel_rfl) (by kernel_rfl) (fun _ _ _ h => h) (Or.inl ⟨by kernel_rfl, ?hyra10⟩) (by assumption) ?restra10
          case hyra10 => (intro W hSw; (try dsimp only at hSw); go_simp; try with_reducible rfl)
          case' restra10 => try simp only [Act.put, List.setIfInBounds_toArray, List.set_cons_zero, List.set_cons_succ]
          refine wpAnyH_ready (rs := [12]) (by kernel_rfl) (by simp) ?_
          refine AllReadyH.cons (o := ⟨none, _, _, _, _, _⟩) rfl (fun K hK => ?_) AllReadyH.nil
          obtain ⟨A2, n2, c2, rfl⟩ : ∃ A n c, v2 = Value.slice A n c := by obtain ⟨A, c, e⟩ := Own.slice fO2; exact ⟨A, _, c, e⟩
          have hcc := fR.cell 5
          simp only [List.getElem?_cons_succ, List.getElem?_cons_zero] at hcc
          have hff := fR.frozen 5
          have hltb := fR.lt
          have FR3 := Lib.hid (fR.set 5 (.slice A2 n2 c2))
          simp only [List.set_cons_zero, List.set_cons_succ] at FR3
          have FO3 := Lib.hid (fR.own fO2 (Nat.lt_succ_self _) 5 (.slice A2 n2 c2))
          have hS3 := fR.setB hSWra4 (Nat.le_refl _) 5 (.slice A2 n2 c2)
          clear fR fO2 hSWra4
          go_simp
          clear hcc hff hltb
          refine hK.out _ _ hS3 (fun hHeld => ?_)
          clear hK hHeld K
          try simp only [Act.put, List.setIfInBounds_toArray, List.set_cons_zero, List.set_cons_succ]
          refine wpAnyH_done (by kernel_rfl) ?_ _
          go_wp2_with fail
          go_roundw
          case rel => exact ⟨k + 1, .slice A2 n2 c2, by omega, by go_num, FR3, Lib.hid (by rw [HT.out]; exact FO3.out), HKi.out.trans hS3⟩
          case measure => simp [intOf]; omega
    · obtain rfl : k = v.length := by omega
      have hge : ¬ ((v.length : Int) < (v.length : Int)) := by omega
      have hOw2 : OwnI 3 wi (b + 1) V VS := by
        have := hOw.out
        rwa [HVA.out] at this
      clear hOw
      obtain ⟨A', c', rfl⟩ := Own.slice hOw2
      have hRd : RdI wi A' VS := Own.rd encI_len hOw2
      clear hOw2
      have cKy := Lib.hid (cKx.out A' c')
      have cLy := Lib.hid (cLx.out A' c')
      have HSy := Lib.hid (HSm.out A' c')
      unfold aggH at cKy cLy
      try unfold celH at cKy cLy
      try dsimp only at cKy cLy
      rw [HVl.out] at hBx cKy cLy
      have HRi := Lib.hid fun (W' : World) (hb : Below wi.heap.size wi W') => HRow.out W' (hki.trans (hb.mono hki.size))
      have HKw := Lib.hid fun (W' : World) (hb : Below wi.heap.size wi W') => HWz.out W' (hki.trans (hb.mono hki.size))
      try dsimp only at HRi
      obtain ⟨⟨r0, r1, r2, r3, r4, r5⟩, -, -⟩ := HRi.out wi (Below.refl _ _)
      have hB := hBx.out
      clear hBx
      have c0 := hB.cell 0
      have c1 := hB.cell 1
      have c2 := hB.cell 2
      have c3 := hB.cell 3
      have c4 := hB.cell 4
      have c5 := hB.cell 5
      simp only [List.getElem?_cons_succ, List.getElem?_cons_zero] at c0 c1 c2 c3 c4 c5
      have cKz := Lib.hid (cKy.out wi hRd)
      have hk2 := HKi.out
      clear cKy hki HKi hk2 hk
      by_cases hx0 : chkH ⟨x + qx, y + qy, tw, th, st, A', c', VS⟩ = 0
      rotate_left
      · have hrn : (chkH ⟨x + qx, y + qy, tw, th, st, A', c', VS⟩ != 0) = true := by simpa using hx0
        generalize chkH ⟨x + qx, y + qy, tw, th, st, A', c', VS⟩ = r at *
        clear hRd hB
        go_wp2_with fail
        refine cKz.out.mono ?_
        rintro e w6 ⟨rfl, hb⟩
        have hkk := hb
        clear hb c0 c1 c2 c3 c4 c5 r0 r1 r2 r3 r4 r5
        go_wp2_with fail
        refine (cA.out _).mono ?_
        rintro e w7 ⟨rfl, hb⟩
        replace hkk := hkk.trans (hb.mono hkk.size)
        go_wp2
        go_ret
        exact RetV.bool rfl (HKw.out _ hkk)
      have cLz := Lib.hid (cLy.out hx0)
      have HSz := Lib.hid (HSy.out hx0)
      rw [hx0] at cKz
      clear cLy HSy hx0
      go_wp2_with fail
      refine cKz.out.mono ?_
      rintro e w6 ⟨rfl, hb⟩
      have hkk := hb
      replace hB := hB.below hb
      replace hRd := Rd.below hRd hb
      clear hb c0 c1 c2 c3 c4 c5 r0 r1 r2 r3 r4 r5
      obtain ⟨⟨r0, r1, r2, r3, r4, r5⟩, -, -⟩ := HRi.out _ hkk
      go_wp2_with fail
      refine (cL.out _ (HKw.out _ hkk)).mono ?_
      rintro e w7 ⟨AL, cL', rfl, hL, hb⟩
      replace hkk := hkk.trans (hb.mono hkk.size)
      replace hB := hB.below hb
      replace hRd := Rd.below hRd hb
      clear hb r0 r1 r2 r3 r4 r5
      have c0 := hB.cell 0
      have c1 := hB.cell 1
      have c2 := hB.cell 2
      have c3 := hB.cell 3
      have c4 := hB.cell 4
      have c5 := hB.cell 5
      simp only [List.getElem?_cons_succ, List.getElem?_cons_zero] at c0 c1 c2 c3 c4 c5
      go_wp2_with fail
      refine (cLz.out _ hRd).mono ?_
      rintro e w8 ⟨vk, rfl, hKx, hb⟩
      replace hkk := hkk.trans (hb.mono hkk.size)
      replace hL := hL.below hb
      clear hb c0 c1 c2 c3 c4 c5 hB hRd cLz cKz
      have HKx := Lib.hid hKx.read
      have HK8 := Lib.hid hkk
      have HLn := Lib.hid fun i (hi : i < n) => LnD.at_ hL (i := i) (by rw [HNl.out]; exact hi)
      clear hL hKx hkk
      go_upto_block 2 with fail
      go_wp2_with fail
      generalize w8 = wz2 at *
      go_loopw [15, 16] (fun v15 i wr => ∃ j : Nat, j ≤ n ∧ i = .int .i64 j ∧ Hid (LnR wr wz2.heap.size v15 (WL.take j)) ∧ Below wz2.heap.size wz2 wr) (fun _ i _ => n - (intOf i).toNat)
      case atStart => exact ⟨0, by omega, rfl, Lib.hid (LnR.nil _ _), Below.refl _ _⟩
      case round =>
        obtain ⟨j, hj, rfl, hLv, kb⟩ := hrel
        generalize wr = wj at *
        have HKj := Lib.hid kb
        clear kb
        by_cases hlj : j < n
        rotate_left
        · obtain rfl : j = n := by omega
          have hge2 : ¬ ((j : Int) < (j : Int)) := by omega
          have hWL := hLv.out.read
          rw [HLA.out] at hWL
          have hKA := HKx.out.below HKj.out
          have kr := HK8.out.trans (HKj.out.mono HK8.out.size)
          clear hLv
          go_wp2_with fail
          refine (c_same (z := true) (decide_eq_true rfl) HSz.out HSz.out hKA hWL).mono ?_
          rintro e w9 ⟨rfl, hb⟩
          replace kr := kr.trans (hb.mono kr.size)
          clear hKA hWL hb
          go_wp2_with fail
          refine (cA.out _).mono ?_
          rintro e w10 ⟨rfl, hb⟩
          replace kr := kr.trans (hb.mono kr.size)
          go_wp2
          go_ret
          exact RetV.bool rfl (HKw.out _ kr)
        · have hjl : (j : Int) < (n : Int) := by omega
          have hj0 : (0 : Int) ≤ (j : Int) := by omega
          have HSj := Lib.hid (HLT.out j (by rw [HNl.out]; exact hlj))
          obtain ⟨bl, off, gl, cap, rfl, hc⟩ := HLn.out j hlj
          obtain ⟨m2, m3, m4⟩ := HBig.out j (by rw [HNl.out]; exact hlj)
          have hLlen : (WL.take j).length + 1 ≤ 1000000000 := by
            have := List.length_take_le j WL
            omega
          generalize L[j]! = l at *
          obtain ⟨lv, pts⟩ := l
          unfold shL at HSj
          dsimp only at *
          have HC := Lib.hid fun (W' : World) (hb : Below wj.heap.size wj W') => (hc W' (HKj.out.trans (hb.mono HKj.out.size))).2.1
          have HP := Lib.hid fun (W' : World) (hb : Below wj.heap.size wj W') => (hc W' (HKj.out.trans (hb.mono HKj.out.size))).2.2
          clear hc
          obtain ⟨m, hm⟩ : ∃ m, pts.length = m := ⟨_, rfl⟩
          have HM := Lib.hid hm
          obtain ⟨PS, hPS⟩ : ∃ PS, pts.map (shP (qx, qy)) = PS := ⟨_, rfl⟩
          have hPl : PS.length = m := by rw [← hPS, List.length_map, hm]
          have HPT := Lib.hid fun r (hr : r < m) => (show PS.take (r + 1) = PS.take r ++ [shP (qx, qy) pts[r]!] from by rw [← hPS]; exact map_take_succ _ (by omega))
          have HPA := Lib.hid (show PS.take m = PS from by rw [← hPl]; exact List.take_length)
          have HPl := Lib.hid hPl
          have HM4 := Lib.hid m4
          rw [hPS] at HSj
          rw [hm] at HC m2 m3 HM4
          clear hm m4 hPS hPl
          have HRj := Lib.hid fun (W' : World) (hb : Below wj.heap.size wj W') => HRi.out W' (HK8.out.trans ((HKj.out.trans (hb.mono HKj.out.size)).mono HK8.out.size))
          try dsimp only at HRj
          go_upto_block 4 with (refine Try.storeNew 41 _ #[.int .i64 (level + up), .slice none 0 0] rfl _ _ rfl rfl rfl Try.size41 rfl rfl ?_)
          go_wp2_with fail
          have hB : Bx (wj.alloc (.cells #[.int .i64 (level + up), .slice none 0 0] 41)) wj.heap.size 41 [.int .i64 (level + up), .slice none 0 0] := Bx.new wj rfl
          have kb : Below wj.heap.size wj (wj.alloc (.cells #[.int .i64 (level + up), .slice none 0 0] 41)) := bw1 _ _
          generalize (wj.alloc (.cells #[.int .i64 (level + up), .slice none 0 0] 41)) = wy at *
          go_loopw [18] (fun i wr => ∃ (r : Nat) (V : Value), r ≤ m ∧ i = .int .i64 r ∧ Hid (Bx wr wj.heap.size 41 [.int .i64 (level + up), V]) ∧ Hid (OwnR 23 wr (wj.heap.size + 1) V (PS.take r)) ∧ Below wj.heap.size wj wr) (fun i _ => m - (intOf i).toNat)
          case atStart => exact ⟨0, .slice none 0 0, by omega, rfl, Lib.hid hB, Lib.hid (Own.nil _ _), kb⟩
          case round =>
            obtain ⟨r, V, hr, rfl, hBx, hOw, kr⟩ := hrel
            clear hB kb
            generalize wr = wi2 at *
            have HKi2 := Lib.hid kr
            have d1 := HC.out wi2 kr
            clear kr
            by_cases hlr : r < m
            · have hrl : (r : Int) < (m : Int) := by omega
              have hr0 : (0 : Int) ≤ (r : Int) := by omega
              have HT := Lib.hid (HPT.out r hlr)
              have HPr := Lib.hid fun (W' : World) (hb : Below wj.heap.size wj W') => Rd.cells0 (HP.out W' hb) (k := r) (by rw [HM.out]; exact hlr)
              obtain ⟨p1, p2, p3, p4⟩ := HM4.out r hlr
              have hlen : (PS.take r).length ≤ 1000000000 := by
                have := List.length_take_le r PS
                omega
              generalize PS.take r = LK at *
              obtain ⟨⟨px, py⟩, hP⟩ : ∃ z, pts[r]! = z := ⟨_, rfl⟩
              rw [hP] at HPr HT p1 p2 p3 p4
              unfold shP at HT
              dsimp only at HPr HT p1 p2 p3 p4
              clear hP
              have hwp := IntWalk.i64_in (px + qx) (by omega)
              have hwq := IntWalk.i64_in (py + qy) (by omega)
              go_upto_region 22 with fail
              clear d1
              as_aux_lemma =>
                have hS0 : (fun W' : World => Below wj.heap.size wj W') wi2.drew := HKi2.out.drew
                have fO : OwnR 23 wi2.drew (wj.heap.size + 1) V LK := hOw.out
                have fR : Bx wi2.drew wj.heap.size 41 [.int .i64 (level + up), V] := hBx.out
                clear hOw hBx
                refine wp_region_held_drew (S := (fun W' : World => Below wj.heap.size wj W')) (by kernel_rfl) hS0 (fun hHeld => ?_)
                clear hHeld
                generalize wi2.drew = wy2 at *
                refine wpAnyH_take (i := 0) (oi := ⟨some 137, _, _, _, _, _⟩) (v := ?vrb1) rfl (by kernel_rfl) (by kernel_rfl) (by kernel_rfl) (fun _ _ _ h => h) (Or.inl ⟨by kernel_rfl, ?hyrb1⟩) (by assumption) ?restrb1
                case hyrb1 => (intro W hSw; (try dsimp only at hSw); go_simp; try with_reducible rfl)
                case' restrb1 => try simp only [Act.put, List.setIfInBounds_toArray, List.set_cons_zero, List.set_cons_succ]
                refine wpAnyH_take (i := 2) (oi := ⟨some 139, _, _, _, _, _⟩) (v := ?vrb2) rfl (by kernel_rfl) (by kernel_rfl) (by kernel_rfl) (fun _ _ _ h => h) (Or.inl ⟨by kernel_rfl, ?hyrb2⟩) (by assumption) ?restrb2
                case hyrb2 => (intro W hSw; (try dsimp only at hSw); go_simp; try with_reducible rfl)
                case' restrb2 => try simp only [Act.put, List.setIfInBounds_toArray, List.set_cons_zero, List.set_cons_succ]
                refine wpAnyH_take (i := 3) (oi := ⟨some 140, _, _, _, _, _⟩) (v := ?vrb3) rfl (by kernel_rfl) (by kernel_rfl) (by kernel_rfl) (fun _ _ _ h => h) (Or.inl ⟨by kernel_rfl, ?hyrb3⟩) (by assumption) ?restrb3
                case hyrb3 => (intro W hSw; (try dsimp only at hSw); go_simp; try with_reducible rfl)
                case' restrb3 => try simp only [Act.put, List.setIfInBounds_toArray, List.set_cons_zero, List.set_cons_succ]
                refine wpAnyH_take (i := 4) (oi := ⟨some 141, _, _, _, _, _⟩) (v := ?vrb4) rfl (by kernel_rfl) (by kernel_rfl) (by kernel_rfl) (fun _ _ _ h => h) (Or.inl ⟨by kernel_rfl, ?hyrb4⟩) (by assumption) ?restrb4
                case hyrb4 => (intro W hSw; (try dsimp only at hSw); go_simp; try with_reducible rfl)
                case' restrb4 => try simp only [Act.put, List.setIfInBounds_toArray, List.set_cons_zero, List.set_cons_succ]
                refine wpAnyH_take (i := 5) (oi := ⟨some 142, _, _, _, _, _⟩) (v := ?vrb5) rfl (by kernel_rfl) (by kernel_rfl) (by kernel_rfl) (fun _ _ _ h => h) (Or.inl ⟨by kernel_rfl, ?hyrb5⟩) (by assumption) ?restrb5
                case hyrb5 => (intro W hSw; (try dsimp only at hSw); go_simp; try with_reducible rfl)
                case' restrb5 => try simp only [Act.put, List.setIfInBounds_toArray, List.set_cons_zero, List.set_cons_succ]
                refine wpAnyH_take (i := 6) (oi := ⟨some 143, _, _, _, _, _⟩) (v := ?vrb6) rfl (by kernel_rfl) (by kernel_rfl) (by kernel_rfl) (fun _ _ _ h => h) (Or.inl ⟨by kernel_rfl, ?hyrb6⟩) (by assumption) ?restrb6
                case hyrb6 => (intro W hSw; have d1 := HC.out W hSw; clear hSw; (try dsimp only at hSw); go_simp; try with_reducible rfl)
                case' restrb6 => try simp only [Act.put, List.setIfInBounds_toArray, List.set_cons_zero, List.set_cons_succ]
                refine wpAnyH_take (i := 7) (oi := ⟨some 144, _, _, _, _, _⟩) (v := ?vrb7) rfl (by kernel_rfl) (by kernel_rfl) (by kernel_rfl) (fun _ _ _ h => h) (Or.inl ⟨by kernel_rfl, ?hyrb7⟩) (by assumption) ?restrb7
                case hyrb7 => (intro W hSw; (try dsimp only at hSw); go_simp; try with_reducible rfl)
                case' restrb7 => try simp only [Act.put, List.setIfInBounds_toArray, List.set_cons_zero, List.set_cons_succ]
                refine wpAnyH_take (i := 8) (oi := ⟨some 145, _, _, _, _, _⟩) (v := ?vrb8) rfl (by kernel_rfl) (by kernel_rfl) (by kernel_rfl) (fun _ _ _ h => h) (Or.inl ⟨by kernel_rfl, ?hyrb8⟩) (by assumption) ?restrb8
                case hyrb8 => (intro W hSw; (try dsimp only at hSw); go_simp; try with_reducible rfl)
                case' restrb8 => try simp only [Act.put, List.setIfInBounds_toArray, List.set_cons_zero, List.set_cons_succ]
                refine wpAnyH_take (i := 9) (oi := ⟨some 146, _, _, _, _, _⟩) (v := ?vrb9) rfl (by kernel_rfl) (by kernel_rfl) (by kernel_rfl) (fun _ _ _ h => h) (Or.inl ⟨by kernel_rfl, ?hyrb9⟩) (by assumption) ?restrb9
                case hyrb9 => (intro W hSw; (try dsimp only at hSw); go_simp; try with_reducible rfl)
                case' restrb9 => try simp only [Act.put, List.setIfInBounds_toArray, List.set_cons_zero, List.set_cons_succ]
                refine wpAnyH_take (i := 10) (oi := ⟨some 147, _, _, _, _, _⟩) (v := ?vrb10) rfl (by kernel_rfl) (by kernel_rfl) (by kernel_rfl) (fun _ _ _ h => h) (Or.inl ⟨by kernel_rfl, ?hyrb10⟩) (by assumption) ?restrb10
                case hyrb10 => (intro W hSw; obtain ⟨d2, d3⟩ := HPr.out W hSw; clear hSw; (try dsimp only at hSw); go_simp; try with_reducible rfl)
                case' restrb10 => try simp only [Act.put, List.setIfInBounds_toArray, List.set_cons_zero, List.set_cons_succ]
                refine wpAnyH_take (i := 11) (oi := ⟨some 148, _, _, _, _, _⟩) (v := ?vrb11) rfl (by kernel_rfl) (by kernel_rfl) (by kernel_rfl) (fun _ _ _ h => h) (Or.inl ⟨by kernel_rfl, ?hyrb11⟩) (by assumption) ?restrb11
                case hyrb11 => (intro W hSw; (try dsimp only at hSw); go_simp; try with_reducible rfl)
                case' restrb11 => try simp only [Act.put, List.setIfInBounds_toArray, List.set_cons_zero, List.set_cons_succ]
                refine wpAnyH_take (i := 12) (oi := ⟨some 149, _, _, _, _, _⟩) (v := ?vrb12) rfl (by kernel_rfl) (by kernel_rfl) (by kernel_rfl) (fun _ _ _ h => h) (Or.inl ⟨by kernel_rfl, ?hyrb12⟩) (by assumption) ?restrb12
                case hyrb12 => (intro W hSw; obtain ⟨-, s0, s1⟩ := HRj.out W hSw; clear hSw; (try dsimp only at hSw); go_simp; try with_reducible rfl)
                case' restrb12 => try simp only [Act.put, List.setIfInBounds_toArray, List.set_cons_zero, List.set_cons_succ]
                refine wpAnyH_take (i := 13) (oi := ⟨some 150, _, _, _, _, _⟩) (v := ?vrb13) rfl (by kernel_rfl) (by kernel_rfl) (by kernel_rfl) (fun _ _ _ h => h) (Or.inl ⟨by kernel_rfl, ?hyrb13⟩) (by assumption) ?restrb13
                case hyrb13 => (intro W hSw; (try dsimp only at hSw); go_simp; try with_reducible rfl)
                case' restrb13 => try simp only [Act.put, List.setIfInBounds_toArray, List.set_cons_zero, List.set_cons_succ]
                refine wpAnyH_take (i := 14) (oi := ⟨some 151, _, _, _, _, _⟩) (v := ?vrb14) rfl (by kernel_rfl) (by kernel_rfl) (by kernel_rfl) (fun _ _ _ h => h) (Or.inl ⟨by kernel_rfl, ?hyrb14⟩) (by assumption) ?restrb14
                case hyrb14 => (intro W hSw; (try dsimp only at hSw); go_simp; try with_reducible rfl)
                case' restrb14 => try simp only [Act.put, List.setIfInBounds_toArray, List.set_cons_zero, List.set_cons_succ]
                refine wpAnyH_take (i := 15) (oi := ⟨some 152, _, _, _, _, _⟩) (v := ?vrb15) rfl (by kernel_rfl) (by kernel_rfl) (by kernel_rfl) (fun _ _ _ h => h) (Or.inl ⟨by kernel_rfl, ?hyrb15⟩) (by assumption) ?restrb15
                case hyrb15 => (intro W hSw; (try dsimp only at hSw); go_simp; try with_reducible rfl)
                case' restrb15 => try simp only [Act.put, List.setIfInBounds_toArray, List.set_cons_zero, List.set_cons_succ]
                refine wpAnyH_take (i := 16) (oi := ⟨some 153, _, _, _, _, _⟩) (v := ?vrb16) rfl (by kernel_rfl) (by kernel_rfl) (by kernel_rfl) (fun _ _ _ h => h) (Or.inl ⟨by kernel_rfl, ?hyrb16⟩) (by assumption) ?restrb16
                case hyrb16 => (intro W hSw; (try dsimp only at hSw); go_simp; try with_reducible rfl)
                case' restrb16 => try simp only [Act.put, List.setIfInBounds_toArray, List.set_cons_zero, List.set_cons_succ]
                refine wpAnyH_take (i := 17) (oi := ⟨some 154, _, _, _, _, _⟩) (v := ?vrb17) rfl (by kernel_rfl) (by kernel_rfl) (by kernel_rfl) (fun _ _ _ h => h) (Or.inl ⟨by kernel_rfl, ?hyrb17⟩) (by assumption) ?restrb17
                case hyrb17 => (intro W hSw; (try dsimp only at hSw); go_simp; try with_reducible rfl)
                case' restrb17 => try simp only [Act.put, List.setIfInBounds_toArray, List.set_cons_zero, List.set_cons_succ]
                refine wpAnyH_take (i := 18) (oi := ⟨some 155, _, _, _, _, _⟩) (v := ?vrb18) rfl (by kernel_rfl) (by kernel_rfl) (by kernel_rfl) (fun _ _ _ h => h) (Or.inl ⟨by kernel_rfl, ?hyrb18⟩) (by assumption) ?restrb18
                case hyrb18 => (intro W hSw; have d1 := HC.out W hSw; clear hSw; (try dsimp only at hSw); go_simp; try with_reducible rfl)
                case' restrb18 => try simp only [Act.put, List.setIfInBounds_toArray, List.set_cons_zero, List.set_cons_succ]
                refine wpAnyH_take (i := 19) (oi := ⟨some 156, _, _, _, _, _⟩) (v := ?vrb19) rfl (by kernel_rfl) (by kernel_rfl) (by kernel_rfl) (fun _ _ _ h => h) (Or.inl ⟨by kernel_rfl, ?hyrb19⟩) (by assumption) ?restrb19
                case hyrb19 => (intro W hSw; (try dsimp only at hSw); go_simp; try with_reducible rfl)
                case' restrb19 => try simp only [Act.put, List.setIfInBounds_toArray, List.set_cons_zero, List.set_cons_succ]
                refine wpAnyH_take (i := 20) (oi := ⟨some 157, _, _, _, _, _⟩) (v := ?vrb20) rfl (by kernel_rfl) (by kernel_rfl) (by kernel_rfl) (fun _ _ _ h => h) (Or.inl ⟨by kernel_rfl, ?hyrb20⟩) (by assumption) ?restrb20
                case hyrb20 => (intro W hSw; (try dsimp only at hSw); go_simp; try with_reducible rfl)
                case' restrb20 => try simp only [Act.put, List.setIfInBounds_toArray, List.set_cons_zero, List.set_cons_succ]
                refine wpAnyH_take (i := 21) (oi := ⟨some 158, _, _, _, _, _⟩) (v := ?vrb21) rfl (by kernel_rfl) (by kernel_rfl) (by kernel_rfl) (fun _ _ _ h => h) (Or.inl ⟨by kernel_rfl, ?hyrb21⟩) (by assumption) ?restrb21
                case hyrb21 => (intro W hSw; (try dsimp only at hSw); go_simp; try with_reducible rfl)
                case' restrb21 => try simp only [Act.put, List.setIfInBounds_toArray, List.set_cons_zero, List.set_cons_succ]
                refine wpAnyH_take (i := 22) (oi := ⟨some 159, _, _, _, _, _⟩) (v := ?vrb22) rfl (by kernel_rfl) (by kernel_rfl) (by kernel_rfl) (fun _ _ _ h => h) (Or.inl ⟨by kernel_rfl, ?hyrb22⟩) (by assumption) ?restrb22
                case hyrb22 => (intro W hSw; obtain ⟨d2, d3⟩ := HPr.out W hSw; clear hSw; (try dsimp only at hSw); go_simp; try with_reducible rfl)
                case' restrb22 => try simp only [Act.put, List.setIfInBounds_toArray, List.set_cons_zero, List.set_cons_succ]
                refine wpAnyH_take (i := 23) (oi := ⟨some 160, _, _, _, _, _⟩) (v := ?vrb23) rfl (by kernel_rfl) (by kernel_rfl) (by kernel_rfl) (fun _ _ _ h => h) (Or.inl ⟨by kernel_rfl, ?hyrb23⟩) (by assumption) ?restrb23
                case hyrb23 => (intro W hSw; (try dsimp only at hSw); go_simp; try with_reducible rfl)
                case' restrb23 => try simp only [Act.put, List.setIfInBounds_toArray, List.set_cons_zero, List.set_cons_succ]
                refine wpAnyH_take (i := 24) (oi := ⟨some 161, _, _, _, _, _⟩) (v := ?vrb24) rfl (by kernel_rfl) (by kernel_rfl) (by kernel_rfl) (fun _ _ _ h => h) (Or.inl ⟨by kernel_rfl, ?hyrb24⟩) (by assumption) ?restrb24
                case hyrb24 => (intro W hSw; obtain ⟨-, s0, s1⟩ := HRj.out W hSw; clear hSw; (try dsimp only at hSw); go_simp; try with_reducible rfl)
                case' restrb24 => try simp only [Act.put, List.setIfInBounds_toArray, List.set_cons_zero, List.set_cons_succ]
                refine wpAnyH_take (i := 25) (oi := ⟨some 162, _, _, _, _, _⟩) (v := ?vrb25) rfl (by kernel_rfl) (by kernel_rfl) (by kernel_rfl) (fun _ _ _ h => h) (Or.inl ⟨by kernel_rfl, ?hyrb25⟩) (by assumption) ?restrb25
                case hyrb25 => (intro W hSw; (try dsimp only at hSw); go_simp; try with_reducible rfl)
                case' restrb25 => try simp only [Act.put, List.setIfInBounds_toArray, List.set_cons_zero, List.set_cons_succ]
                refine' wpAnyH_share (fun H f l (act : Value → Act) => ∀ (lv1 : Value) (WX : World), OwnR 23 WX (wj.heap.size + 1) V LK → Bx WX wj.heap.size 41 [.int .i64 (level + up), V] → SlP1 WX lv1 (px + qx, py + qy) → (fun W' : World => Below wj.heap.size wj W') WX → H f l (act lv1) WX) (fun tailrb27 => ?mtailrb27) ?ttailrb27
                case mtailrb27 =>
                  refine' wpAnyH_share (fun H f l (act : Act) => ∀ (WX : World), OwnR 23 WX (wj.heap.size + 1) V LK → Bx WX wj.heap.size 41 [.int .i64 (level + up), V] → (fun W' : World => Below wj.heap.size wj W') WX → H f l (act) WX) (fun tailrb26 => ?mtailrb26) ?ttailrb26
                  case mtailrb26 =>
                    refine wpAnyH_ready (rs := [1, 26]) (by kernel_rfl) (by simp) ?_
                    refine AllReadyH.cons (o := ⟨some 138, _, _, _, _, _⟩) rfl (fun K hK => ?_) ?_
                    · skip
                      have hcc := fR.cell 1
                      simp only [List.getElem?_cons_succ, List.getElem?_cons_zero] at hcc
                      go_simp
                      clear hcc
                      refine hK.out _ _ hS0 (fun hHeld => ?_)
                      clear hK hHeld K
                      try simp only [Act.put, List.setIfInBounds_toArray, List.set_cons_zero, List.set_cons_succ]
                      refine wpAnyH_ready (rs := [26]) (by kernel_rfl) (by simp) ?_
                      refine AllReadyH.cons (o := ⟨some 163, _, _, _, _, _⟩) rfl (fun K hK => ?_) AllReadyH.nil
                      go_simp
                      go_at_call 25
                      refine (law_pt _ _ _).mono ?_
                      rintro e Wrb1 ⟨rfl, hbWrb1⟩
                      replace fO := fO.below hbWrb1
                      replace fR := fR.below hbWrb1
                      have hSWrb1 := hS0.trans (hbWrb1.mono hS0.size)
                      try clear hS0
                      clear hbWrb1
                      go_wp2_with fail
                      refine hK.out _ _ hSWrb1 (fun hHeld => ?_)
                      clear hK hHeld K
                      try simp only [Act.put, List.setIfInBounds_toArray, List.set_cons_zero, List.set_cons_succ]
                      exact wpAnyH_cast rfl rfl (tailrb26 Wrb1 fO fR hSWrb1)
                    refine AllReadyH.cons (o := ⟨some 163, _, _, _, _, _⟩) rfl (fun K hK => ?_) AllReadyH.nil
                    go_simp
                    go_at_call 25
                    refine (law_pt _ _ _).mono ?_
                    rintro e Wrb2 ⟨rfl, hbWrb2⟩
                    replace fO := fO.below hbWrb2
                    replace fR := fR.below hbWrb2
                    have hSWrb2 := hS0.trans (hbWrb2.mono hS0.size)
                    try clear hS0
                    clear hbWrb2
                    go_wp2_with fail
                    refine hK.out _ _ hSWrb2 (fun hHeld => ?_)
                    clear hK hHeld K
                    try simp only [Act.put, List.setIfInBounds_toArray, List.set_cons_zero, List.set_cons_succ]
                    refine wpAnyH_ready (rs := [1, 27]) (by kernel_rfl) (by simp) ?_
                    refine AllReadyH.cons (o := ⟨some 138, _, _, _, _, _⟩) rfl (fun K hK => ?_) ?_
                    · skip
                      have hcc := fR.cell 1
                      simp only [List.getElem?_cons_succ, List.getElem?_cons_zero] at hcc
                      go_simp
                      clear hcc
                      refine hK.out _ _ hSWrb2 (fun hHeld => ?_)
                      clear hK hHeld K
                      try simp only [Act.put, List.setIfInBounds_toArray, List.set_cons_zero, List.set_cons_succ]
                      exact wpAnyH_cast (by kernel_rfl) (by kernel_rfl) (tailrb26 Wrb2 fO fR hSWrb2)
                    refine AllReadyH.cons (o := ⟨some 164, _, _, _, _, _⟩) rfl (fun K hK => ?_) AllReadyH.nil
                    go_simp
                    have fL := SlP1.new Wrb2 (px + qx, py + qy)
                    have hSWrb3 := hSWrb2.alloc hSWrb2.size (.cells #[.int .i64 (px + qx), .int .i64 (py + qy)] 23)
                    replace fO := fO.alloc (.cells #[.int .i64 (px + qx), .int .i64 (py + qy)] 23)
                    replace fR := fR.alloc (.cells #[.int .i64 (px + qx), .int .i64 (py + qy)] 23)
                    refine hK.out _ _ hSWrb3 (fun hHeld => ?_)
                    clear hK hHeld K
                    try clear hSWrb2
                    try simp only [Act.put, List.setIfInBounds_toArray, List.set_cons_zero, List.set_cons_succ]
                    generalize (Wrb2.alloc (.cells #[.int .i64 (px + qx), .int .i64 (py + qy)] 23)) = Wrb3 at fL fO fR hSWrb3 ⊢
                    generalize Value.slice (some ⟨Wrb2.heap.size, 0, none⟩) 1 1 = lv1 at fL ⊢
                    refine wpAnyH_ready (rs := [1]) (by kernel_rfl) (by simp) ?_
                    refine AllReadyH.cons (o := ⟨some 138, _, _, _, _, _⟩) rfl (fun K hK => ?_) AllReadyH.nil
                    have hcc := fR.cell 1
                    simp only [List.getElem?_cons_succ, List.getElem?_cons_zero] at hcc
                    go_simp
                    clear hcc
                    refine hK.out _ _ hSWrb3 (fun hHeld => ?_)
                    clear hK hHeld K
                    try simp only [Act.put, List.setIfInBounds_toArray, List.set_cons_zero, List.set_cons_succ]
                    exact wpAnyH_cast rfl rfl (tailrb27 lv1 Wrb3 fO fR fL hSWrb3)
                  case ttailrb26 =>
                    try clear fO
                    try clear fR
                    try clear hS0
                    intro Wrb4 fO fR hSWrb4
                    refine wpAnyH_ready (rs := [27]) (by kernel_rfl) (by simp) ?_
                    refine AllReadyH.cons (o := ⟨some 164, _, _, _, _, _⟩) rfl (fun K hK => ?_) AllReadyH.nil
                    go_simp
                    have fL := SlP1.new Wrb4 (px + qx, py + qy)
                    have hSWrb5 := hSWrb4.alloc hSWrb4.size (.cells #[.int .i64 (px + qx), .int .i64 (py + qy)] 23)
                    replace fO := fO.alloc (.cells #[.int .i64 (px + qx), .int .i64 (py + qy)] 23)
                    replace fR := fR.alloc (.cells #[.int .i64 (px + qx), .int .i64 (py + qy)] 23)
                    refine hK.out _ _ hSWrb5 (fun hHeld => ?_)
                    clear hK hHeld K
                    try clear hSWrb4
                    try simp only [Act.put, List.setIfInBounds_toArray, List.set_cons_zero, List.set_cons_succ]
                    generalize (Wrb4.alloc (.cells #[.int .i64 (px + qx), .int .i64 (py + qy)] 23)) = Wrb5 at fL fO fR hSWrb5 ⊢
                    generalize Value.slice (some ⟨Wrb4.heap.size, 0, none⟩) 1 1 = lv1 at fL ⊢
                    exact wpAnyH_cast (by kernel_rfl) (by kernel_rfl) (tailrb27 lv1 Wrb5 fO fR fL hSWrb5)
                case ttailrb27 =>
                  try clear fO
                  try clear fR
                  try clear hS0
                  intro lv1 Wrb6 fO fR fL hSWrb6
                  refine wpAnyH_ready (rs := [28]) (by kernel_rfl) (by simp) ?_
                  refine AllReadyH.cons (o := ⟨some 165, _, _, _, _, _⟩) rfl (fun K hK => ?_) AllReadyH.nil
                  refine SlP1.app fO fL rfl _ _ rfl rfl rfl hlen fR.lt (fun v2 Wrb7 fO2 hb2 => ?_)
                  replace fR := Bx.belowS fR hb2
                  have hSWrb7 := hSWrb6.trans (hb2.mono (Nat.le_succ _))
                  clear fO fL hb2 hSWrb6
                  refine hK.out _ _ hSWrb7 (fun hHeld => ?_)
                  clear hK hHeld K
                  try simp only [Act.put, List.setIfInBounds_toArray, List.set_cons_zero, List.set_cons_succ]
                  refine wpAnyH_take (i := 29) (oi := ⟨some 166, _, _, _, _, _⟩) (v := ?vrb28) rfl (by kernel_rfl) (by kernel_rfl) (by kernel_rfl) (fun _ _ _ h => h) (Or.inl ⟨by kernel_rfl, ?hyrb28⟩) (by assumption) ?restrb28
                  case hyrb28 => (intro W hSw; (try dsimp only at hSw); go_simp; try with_reducible rfl)
                  case' restrb28 => try simp only [Act.put, List.setIfInBounds_toArray, List.set_cons_zero, List.set_cons_succ]
                  refine wpAnyH_ready (rs := [30]) (by kernel_rfl) (by simp) ?_
                  refine AllReadyH.cons (o := ⟨none, _, _, _, _, _⟩) rfl (fun K hK => ?_) AllReadyH.nil
                  obtain ⟨A2, n2, c2, rfl⟩ : ∃ A n c, v2 = Value.slice A n c := by obtain ⟨A, c, e⟩ := Own.slice fO2; exact ⟨A, _, c, e⟩
                  have hcc := fR.cell 1
                  simp only [List.getElem?_cons_succ, List.getElem?_cons_zero] at hcc
                  have hff := fR.frozen 1
                  have hltb := fR.lt
                  have FR3 := Lib.hid (fR.set 1 (.slice A2 n2 c2))
                  simp only [List.set_cons_zero, List.set_cons_succ] at FR3
                  have FO3 := Lib.hid (fR.own fO2 (Nat.lt_succ_self _) 1 (.slice A2 n2 c2))
                  have hS3 := fR.setB hSWrb7 (Nat.le_refl _) 1 (.slice A2 n2 c2)
                  clear fR fO2 hSWrb7
                  go_simp
                  clear hcc hff hltb
                  refine hK.out _ _ hS3 (fun hHeld => ?_)
                  clear hK hHeld K
                  try simp only [Act.put, List.setIfInBounds_toArray, List.set_cons_zero, List.set_cons_succ]
                  refine wpAnyH_done (by kernel_rfl) ?_ _
                  go_wp2_with fail
                  go_roundw
                  case rel => exact ⟨r + 1, .slice A2 n2 c2, by omega, by go_num, FR3, Lib.hid (by rw [HT.out]; exact FO3.out), hS3⟩
                  case measure => simp [intOf]; omega
            · obtain rfl : r = m := by omega
              have hge3 : ¬ ((r : Int) < (r : Int)) := by omega
              have hOw2 : OwnR 23 wi2 (wj.heap.size + 1) V PS := by
                have := hOw.out
                rwa [HPA.out] at this
              clear hOw
              obtain ⟨gp, capp, rfl, hg1, hg2, hg3⟩ := OwnR.some_ hOw2 (by rw [HPl.out]; omega)
              have hL3 := Lib.hid (hLv.out.below HKi2.out)
              have hAt := Lib.hid (show LnAt wi2 (level + up, .slice (some ⟨gp, 0, none⟩) PS.length capp) (level + up, PS) (fun g => wz2.heap.size ≤ g ∧ u15.ownBlock ≠ some g) from
                ⟨gp, capp, rfl, ⟨by have := HKj.out.size; omega, fun e => by have := (hLv.out.own _ e).2; omega⟩, hg2, hg3⟩)
              have hbs : wz2.heap.size ≤ wi2.heap.size := by
                have := HKj.out.size
                have := HKi2.out.size
                omega
              have hB := hBx.out
              clear hBx hOw2 hg1 hg2 hg3 hLv
              have c0 := hB.cell 0
              have c1 := hB.cell 1
              simp only [List.getElem?_cons_succ, List.getElem?_cons_zero] at c0 c1
              clear hB
              go_wp2_with (at_builtin; refine Try.appLn hL3.out (level + up) PS gp capp hAt.out rfl _ _ rfl rfl rfl hLlen hbs ?_; intro v9 w9 hL9 hb9)
              go_roundw
              case rel => exact ⟨j + 1, by omega, by go_num, Lib.hid (by rw [HSj.out]; exact hL9), (HKj.out.trans (HKi2.out.mono HKj.out.size)).trans hb9⟩
              case measure => simp [intOf]; omega
end Go.Proofs
