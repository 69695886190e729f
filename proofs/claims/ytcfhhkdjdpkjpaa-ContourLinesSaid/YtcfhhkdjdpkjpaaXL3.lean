/- ContourLines, walked. -/
import Derived.Test.YtcfhhkdjdpkjpaaXJ15
set_option linter.unusedVariables false
set_option linter.unusedSimpArgs false
namespace Go.Proofs
open Go.RowKit Go.Proofs.Mp Go.Lib

set_option maxRecDepth 100000 in
set_option maxHeartbeats 4000000 in
theorem law_lines (t : Ht) (level : Int) (w : World) (hmax : t.v.length ≤ 9223372036854775807) (hR : RdI w t.a t.v) : Calls Try.prog 3 #[aggH t, .int .i64 level] w (RetV w (.bool true)) := by
  have hb0 : Below w.heap.size w (w.alloc (.cells (celH t) 26)) := bw1 _ _
  have hrow0 := RowH.new w t
  have cA := Lib.hid law_awake
  have HRow := Lib.hid fun (W' : World) (hb : Below (w.alloc (.cells (celH t) 26)).heap.size (w.alloc (.cells (celH t) 26)) W') => hrow0.below hb
  have HWz := Lib.hid fun (W' : World) (hb : Below (w.alloc (.cells (celH t) 26)).heap.size (w.alloc (.cells (celH t) 26)) W') => (hb0.trans (hb.mono hb0.size) : Below w.heap.size w W')
  have cF := Lib.hid fun W => law_few t W hmax
  by_cases hf : fewB t = true
  rotate_left
  · have hf : fewB t = false := by simpa using hf
    rw [hf] at cF
    clear hR hmax hf
    obtain ⟨x, y, tw, th, st, A, cc, v⟩ := t
    unfold aggH celH at *
    dsimp only at *
    go_enter Try.func3, Try.ntmps3
    go_upto_region 1 with fail
    generalize (w.alloc (.cells #[.int .i64 x, .int .i64 y, .int .i64 tw, .int .i64 th, .int .i64 st, .slice A v.length cc] 26)) = w0 at *
    clear hrow0 hb0
    have k : Below w0.heap.size w0 w0 := Below.refl _ _
    obtain ⟨r0, r1, r2, r3, r4, r5⟩ := (HRow.out _ k).cells
    dsimp only at r0 r1 r2 r3 r4 r5
    go_wp2_with fail
    refine (cF.out _).mono ?_
    rintro e w1 ⟨rfl, hb⟩
    replace k := k.trans (hb.mono k.size)
    clear hb
    go_wp2_with fail
    refine (cA.out _).mono ?_
    rintro e w2 ⟨rfl, hb⟩
    replace k := k.trans (hb.mono k.size)
    clear hb
    go_wp2
    go_ret
    exact RetV.bool rfl (HWz.out _ k)
  have hl := (few_len hf).2.2
  rw [hf] at cF
  have HS := Lib.hid (linesT_small t level)
  obtain ⟨n, hn⟩ : ∃ n, (linesT t level).length = n := ⟨_, rfl⟩
  have cC := Lib.hid fun (W' : World) (hb : Below w.heap.size w W') => con_Crossed t level W' (by omega) (hR.below hb)
  have cD := Lib.hid fun (W' : World) (hb : Below w.heap.size w W') => ref_Crossed t level W' (by omega) (hR.below hb)
  have cL := Lib.hid fun (W' : World) (hb : Below w.heap.size w W') => cl_lines (t := t) level hn hl (hR.below hb)
  have cM := Lib.hid fun (W' : World) (hb : Below w.heap.size w W') => cr_lines (t := t) level hn hl (hR.below hb)
  clear hR hf hn hl hmax
  generalize linesT t level = L at *
  generalize crossN t level = m at *
  generalize chkH t = r at *
  obtain ⟨x, y, tw, th, st, A, cc, v⟩ := t
  unfold aggH celH at *
  dsimp only at *
  go_enter Try.func3, Try.ntmps3
  go_upto_region 1 with fail
  generalize (w.alloc (.cells #[.int .i64 x, .int .i64 y, .int .i64 tw, .int .i64 th, .int .i64 st, .slice A v.length cc] 26)) = w0 at *
  clear hrow0 hb0
  have k : Below w0.heap.size w0 w0 := Below.refl _ _
  obtain ⟨r0, r1, r2, r3, r4, r5⟩ := (HRow.out _ k).cells
  dsimp only at r0 r1 r2 r3 r4 r5
  go_wp2_with fail
  refine (cF.out _).mono ?_
  rintro e w1 ⟨rfl, hb⟩
  replace k := k.trans (hb.mono k.size)
  clear hb
  clear r0 r1 r2 r3 r4 r5
  obtain ⟨r0, r1, r2, r3, r4, r5⟩ := (HRow.out _ k).cells
  dsimp only at r0 r1 r2 r3 r4 r5
  go_wp2_with fail
  refine (cC.out _ (HWz.out _ k)).mono ?_
  rintro e w2 ⟨rfl, hb⟩
  replace k := k.trans (hb.mono k.size)
  clear hb
  clear r0 r1 r2 r3 r4 r5
  obtain ⟨r0, r1, r2, r3, r4, r5⟩ := (HRow.out _ k).cells
  dsimp only at r0 r1 r2 r3 r4 r5
  go_wp2_with fail
  refine (cD.out _ (HWz.out _ k)).mono ?_
  rintro e w3 ⟨rfl, hb⟩
  replace k := k.trans (hb.mono k.size)
  clear hb
  clear r0 r1 r2 r3 r4 r5
  obtain ⟨r0, r1, r2, r3, r4, r5⟩ := (HRow.out _ k).cells
  dsimp only at r0 r1 r2 r3 r4 r5
  go_wp2_with fail
  refine (cL.out _ (HWz.out _ k)).mono ?_
  rintro e w4 ⟨AL, cL, rfl, hL, hb⟩
  replace k := k.trans (hb.mono k.size)
  clear hb
  clear r0 r1 r2 r3 r4 r5
  obtain ⟨r0, r1, r2, r3, r4, r5⟩ := (HRow.out _ k).cells
  dsimp only at r0 r1 r2 r3 r4 r5
  go_wp2_with fail
  refine (cM.out _ (HWz.out _ k)).mono ?_
  rintro e w5 ⟨AM, cM, rfl, hM, hb⟩
  replace hL := hL.below hb
  replace k := k.trans (hb.mono k.size)
  clear hb
  clear r0 r1 r2 r3 r4 r5
  go_wp2_with fail
  refine (c_same (z := true) (decide_eq_true rfl) HS.out HS.out hL hM).mono ?_
  rintro e w6 ⟨rfl, hb⟩
  replace hL := hL.below hb
  replace hM := hM.below hb
  replace k := k.trans (hb.mono k.size)
  clear hb
  clear hL hM
  go_wp2_with fail
  refine (cA.out _).mono ?_
  rintro e w7 ⟨rfl, hb⟩
  replace k := k.trans (hb.mono k.size)
  clear hb
  go_wp2
  go_ret
  exact RetV.bool rfl (HWz.out _ k)
end Go.Proofs
