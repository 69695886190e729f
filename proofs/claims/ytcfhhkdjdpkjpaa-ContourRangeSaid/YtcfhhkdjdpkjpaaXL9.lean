/- ContourRange, walked. -/
import Derived.Test.YtcfhhkdjdpkjpaaXJ15
import Derived.Test.YtcfhhkdjdpkjpaaXH4
set_option linter.unusedVariables false
set_option linter.unusedSimpArgs false
namespace Go.Proofs
open Go.RowKit Go.Proofs.Mp Go.Lib

theorem range_out {t : Ht} {level : Int} (h0 : chkH t = 0) (h : level ≤ loV t.v ∨ hiV t.v < level) : linesT t level = [] ∧ crossN t level = 0 := by
  have g := Grd.of h0
  have hl := g.all.2.2.2.2.1
  have hW := g.all.1
  have hc : ∀ e, crsB (abv t level) t.w.toNat t.h.toNat e = false := by
    rcases h with h | h
    · refine same_side (b := true) (by omega) fun j hj => decide_eq_true ?_
      have := minTo_le (v := t.v) t.v.length (Nat.le_refl _) j (by omega)
      unfold loV at h
      omega
    · refine same_side (b := false) (by omega) fun j hj => decide_eq_false ?_
      have := maxTo_ge (v := t.v) t.v.length (Nat.le_refl _) j (by omega)
      unfold hiV at h
      omega
  obtain ⟨h1, h2⟩ := none_crossed hc
  unfold linesT crossN
  rw [if_pos h0, if_pos h0, h1, h2]
  exact ⟨rfl, rfl⟩
theorem range_in {t : Ht} {level : Int} (h0 : chkH t = 0) (h1 : loV t.v < level) (h2 : level ≤ hiV t.v) : 0 < crossN t level := by
  have g := Grd.of h0
  have hl := g.all.2.2.2.2.1
  have hW := g.all.1
  have hp := chkH_pos h0
  obtain ⟨i, hi, ei⟩ := maxTo_att hp t.v.length (Nat.le_refl _)
  obtain ⟨j, hj, ej⟩ := minTo_att hp t.v.length (Nat.le_refl _)
  unfold loV at h1
  unfold hiV at h2
  have := some_crossed (ab := abv t level) (W := t.w.toNat) (H := t.h.toNat) (by omega) (show i < _ by omega) (show j < _ by omega) (decide_eq_true (by omega)) (decide_eq_false (by omega))
  unfold crossN
  rw [if_pos h0]
  have := List.length_pos_iff.2 this
  omega

set_option maxRecDepth 100000 in
set_option maxHeartbeats 4000000 in
theorem law_range (t : Ht) (level : Int) (w : World) (hmax : t.v.length ≤ 9223372036854775807) (hR : RdI w t.a t.v) : Calls Try.prog 9 #[aggH t, .int .i64 level] w (RetV w (.bool true)) := by
  have hb0 : Below w.heap.size w (w.alloc (.cells (celH t) 26)) := bw1 _ _
  have hrow0 := RowH.new w t
  have cA := Lib.hid law_awake
  have HRow := Lib.hid fun (W' : World) (hb : Below (w.alloc (.cells (celH t) 26)).heap.size (w.alloc (.cells (celH t) 26)) W') => hrow0.below hb
  have HWz := Lib.hid fun (W' : World) (hb : Below (w.alloc (.cells (celH t) 26)).heap.size (w.alloc (.cells (celH t) 26)) W') => (hb0.trans (hb.mono hb0.size) : Below w.heap.size w W')
  have cF := Lib.hid fun W => law_few t W hmax
  have cE := Lib.hid fun (W' : World) (hb : Below w.heap.size w W') => ref_extentB t W' hmax (hR.below hb)
  by_cases hf : fewB t = true
  rotate_left
  · have hf : fewB t = false := by simpa using hf
    rw [hf] at cF
    clear hR hmax hf
    generalize extA t = lo at *
    generalize extB t = hi at *
    generalize chkH t = r at *
    obtain ⟨x, y, tw, th, st, A, cc, v⟩ := t
    unfold aggH celH at *
    dsimp only at *
    go_enter Try.func9, Try.ntmps9
    go_upto_region 1 with fail
    generalize (w.alloc (.cells #[.int .i64 x, .int .i64 y, .int .i64 tw, .int .i64 th, .int .i64 st, .slice A v.length cc] 26)) = w0 at *
    clear hrow0 hb0
    have k : Below w0.heap.size w0 w0 := Below.refl _ _
    obtain ⟨r0, r1, r2, r3, r4, r5⟩ := (HRow.out _ k).cells
    dsimp only at r0 r1 r2 r3 r4 r5
    go_wp2_with fail
    refine (cE.out _ (HWz.out _ k)).mono ?_
    rintro e w1 ⟨rfl, hb⟩
    replace k := k.trans (hb.mono k.size)
    clear hb
    clear r0 r1 r2 r3 r4 r5
    obtain ⟨r0, r1, r2, r3, r4, r5⟩ := (HRow.out _ k).cells
    dsimp only at r0 r1 r2 r3 r4 r5
    go_wp2_with fail
    refine (cF.out _).mono ?_
    rintro e w2 ⟨rfl, hb⟩
    replace k := k.trans (hb.mono k.size)
    clear hb
    go_wp2_with fail
    refine (cA.out _).mono ?_
    rintro e w3 ⟨rfl, hb⟩
    replace k := k.trans (hb.mono k.size)
    clear hb
    go_wp2
    go_ret
    exact RetV.bool rfl (HWz.out _ k)
  have hl := (few_len hf).2.2
  rw [hf] at cF
  by_cases h0 : chkH t = 0
  rotate_left
  · clear hR hmax hf hl
    generalize extA t = lo at *
    generalize extB t = hi at *
    generalize chkH t = r at *
    obtain ⟨x, y, tw, th, st, A, cc, v⟩ := t
    unfold aggH celH at *
    dsimp only at *
    go_enter Try.func9, Try.ntmps9
    go_upto_region 1 with fail
    generalize (w.alloc (.cells #[.int .i64 x, .int .i64 y, .int .i64 tw, .int .i64 th, .int .i64 st, .slice A v.length cc] 26)) = w0 at *
    clear hrow0 hb0
    have k : Below w0.heap.size w0 w0 := Below.refl _ _
    obtain ⟨r0, r1, r2, r3, r4, r5⟩ := (HRow.out _ k).cells
    dsimp only at r0 r1 r2 r3 r4 r5
    go_wp2_with fail
    refine (cE.out _ (HWz.out _ k)).mono ?_
    rintro e w1 ⟨rfl, hb⟩
    replace k := k.trans (hb.mono k.size)
    clear hb
    clear r0 r1 r2 r3 r4 r5
    obtain ⟨r0, r1, r2, r3, r4, r5⟩ := (HRow.out _ k).cells
    dsimp only at r0 r1 r2 r3 r4 r5
    go_wp2_with fail
    refine (cF.out _).mono ?_
    rintro e w2 ⟨rfl, hb⟩
    replace k := k.trans (hb.mono k.size)
    clear hb
    go_wp2_with fail
    refine (cA.out _).mono ?_
    rintro e w3 ⟨rfl, hb⟩
    replace k := k.trans (hb.mono k.size)
    clear hb
    go_wp2
    go_ret
    exact RetV.bool rfl (HWz.out _ k)
  have eA : extA t = loV t.v := if_pos h0
  have eB : extB t = hiV t.v := if_pos h0
  have HO := Lib.hid fun h => range_out (level := level) h0 h
  have HI := Lib.hid fun h1 h2 => range_in (level := level) h0 h1 h2
  have cC := Lib.hid fun (W' : World) (hb : Below w.heap.size w W') => con_Crossed t level W' (by omega) (hR.below hb)
  have cL := Lib.hid fun (n : Nat) (hn : (linesT t level).length = n) (W' : World) (hb : Below w.heap.size w W') => cl_lines (t := t) level hn hl (hR.below hb)
  rw [eA, eB, h0] at cE
  simp only [h0] at cC cL
  clear hR hmax hf hl h0 eA eB
  generalize loV t.v = lo at *
  generalize hiV t.v = hi at *
  by_cases hlo : level ≤ lo
  · obtain ⟨e1, e2⟩ := HO.out (.inl hlo)
    rw [e2] at cC
    have E1 := Lib.hid (show (linesT t level).length = 0 by rw [e1]; rfl)
    clear e1 e2 HO HI
    generalize linesT t level = L at *
    obtain ⟨x, y, tw, th, st, A, cc, v⟩ := t
    unfold aggH celH at *
    dsimp only at *
    go_enter Try.func9, Try.ntmps9
    go_upto_region 1 with fail
    generalize (w.alloc (.cells #[.int .i64 x, .int .i64 y, .int .i64 tw, .int .i64 th, .int .i64 st, .slice A v.length cc] 26)) = w0 at *
    clear hrow0 hb0
    have k : Below w0.heap.size w0 w0 := Below.refl _ _
    obtain ⟨r0, r1, r2, r3, r4, r5⟩ := (HRow.out _ k).cells
    dsimp only at r0 r1 r2 r3 r4 r5
    go_wp2_with fail
    refine (cE.out _ (HWz.out _ k)).mono ?_
    rintro e w1 ⟨rfl, hb⟩
    replace k := k.trans (hb.mono k.size)
    clear hb
    clear r0 r1 r2 r3 r4 r5
    obtain ⟨r0, r1, r2, r3, r4, r5⟩ := (HRow.out _ k).cells
    dsimp only at r0 r1 r2 r3 r4 r5
    go_wp2_with fail
    refine (cF.out _).mono ?_
    rintro e w2 ⟨rfl, hb⟩
    replace k := k.trans (hb.mono k.size)
    clear hb
    clear r0 r1 r2 r3 r4 r5
    obtain ⟨r0, r1, r2, r3, r4, r5⟩ := (HRow.out _ k).cells
    dsimp only at r0 r1 r2 r3 r4 r5
    go_wp2_with fail
    refine (cL.out 0 E1.out _ (HWz.out _ k)).mono ?_
    rintro e w3 ⟨AL, cL, rfl, hL, hb⟩
    replace k := k.trans (hb.mono k.size)
    clear hb
    clear r0 r1 r2 r3 r4 r5
    obtain ⟨r0, r1, r2, r3, r4, r5⟩ := (HRow.out _ k).cells
    dsimp only at r0 r1 r2 r3 r4 r5
    go_wp2_with fail
    refine (cC.out _ (HWz.out _ k)).mono ?_
    rintro e w4 ⟨rfl, hb⟩
    replace hL := hL.below hb
    replace k := k.trans (hb.mono k.size)
    clear hb
    clear r0 r1 r2 r3 r4 r5 hL
    go_wp2_with fail
    refine (cA.out _).mono ?_
    rintro e w5 ⟨rfl, hb⟩
    replace k := k.trans (hb.mono k.size)
    clear hb
    go_wp2
    go_ret
    exact RetV.bool rfl (HWz.out _ k)
  by_cases hhi : hi < level
  · obtain ⟨e1, e2⟩ := HO.out (.inr hhi)
    rw [e2] at cC
    have E1 := Lib.hid (show (linesT t level).length = 0 by rw [e1]; rfl)
    clear e1 e2 HO HI
    generalize linesT t level = L at *
    obtain ⟨x, y, tw, th, st, A, cc, v⟩ := t
    unfold aggH celH at *
    dsimp only at *
    go_enter Try.func9, Try.ntmps9
    go_upto_region 1 with fail
    generalize (w.alloc (.cells #[.int .i64 x, .int .i64 y, .int .i64 tw, .int .i64 th, .int .i64 st, .slice A v.length cc] 26)) = w0 at *
    clear hrow0 hb0
    have k : Below w0.heap.size w0 w0 := Below.refl _ _
    obtain ⟨r0, r1, r2, r3, r4, r5⟩ := (HRow.out _ k).cells
    dsimp only at r0 r1 r2 r3 r4 r5
    go_wp2_with fail
    refine (cE.out _ (HWz.out _ k)).mono ?_
    rintro e w1 ⟨rfl, hb⟩
    replace k := k.trans (hb.mono k.size)
    clear hb
    clear r0 r1 r2 r3 r4 r5
    obtain ⟨r0, r1, r2, r3, r4, r5⟩ := (HRow.out _ k).cells
    dsimp only at r0 r1 r2 r3 r4 r5
    go_wp2_with fail
    refine (cF.out _).mono ?_
    rintro e w2 ⟨rfl, hb⟩
    replace k := k.trans (hb.mono k.size)
    clear hb
    clear r0 r1 r2 r3 r4 r5
    obtain ⟨r0, r1, r2, r3, r4, r5⟩ := (HRow.out _ k).cells
    dsimp only at r0 r1 r2 r3 r4 r5
    go_wp2_with fail
    refine (cL.out 0 E1.out _ (HWz.out _ k)).mono ?_
    rintro e w3 ⟨AL, cL, rfl, hL, hb⟩
    replace k := k.trans (hb.mono k.size)
    clear hb
    clear r0 r1 r2 r3 r4 r5
    obtain ⟨r0, r1, r2, r3, r4, r5⟩ := (HRow.out _ k).cells
    dsimp only at r0 r1 r2 r3 r4 r5
    go_wp2_with fail
    refine (cC.out _ (HWz.out _ k)).mono ?_
    rintro e w4 ⟨rfl, hb⟩
    replace hL := hL.below hb
    replace k := k.trans (hb.mono k.size)
    clear hb
    clear r0 r1 r2 r3 r4 r5 hL
    go_wp2_with fail
    refine (cA.out _).mono ?_
    rintro e w5 ⟨rfl, hb⟩
    replace k := k.trans (hb.mono k.size)
    clear hb
    go_wp2
    go_ret
    exact RetV.bool rfl (HWz.out _ k)
  · have hpos := HI.out (by omega) (by omega)
    clear HO HI
    generalize crossN t level = m at *
    generalize linesT t level = L at *
    obtain ⟨x, y, tw, th, st, A, cc, v⟩ := t
    unfold aggH celH at *
    dsimp only at *
    go_enter Try.func9, Try.ntmps9
    go_upto_region 1 with fail
    generalize (w.alloc (.cells #[.int .i64 x, .int .i64 y, .int .i64 tw, .int .i64 th, .int .i64 st, .slice A v.length cc] 26)) = w0 at *
    clear hrow0 hb0
    have k : Below w0.heap.size w0 w0 := Below.refl _ _
    obtain ⟨r0, r1, r2, r3, r4, r5⟩ := (HRow.out _ k).cells
    dsimp only at r0 r1 r2 r3 r4 r5
    go_wp2_with fail
    refine (cE.out _ (HWz.out _ k)).mono ?_
    rintro e w1 ⟨rfl, hb⟩
    replace k := k.trans (hb.mono k.size)
    clear hb
    clear r0 r1 r2 r3 r4 r5
    obtain ⟨r0, r1, r2, r3, r4, r5⟩ := (HRow.out _ k).cells
    dsimp only at r0 r1 r2 r3 r4 r5
    go_wp2_with fail
    refine (cF.out _).mono ?_
    rintro e w2 ⟨rfl, hb⟩
    replace k := k.trans (hb.mono k.size)
    clear hb
    clear r0 r1 r2 r3 r4 r5
    obtain ⟨r0, r1, r2, r3, r4, r5⟩ := (HRow.out _ k).cells
    dsimp only at r0 r1 r2 r3 r4 r5
    go_wp2_with fail
    refine (cL.out _ rfl _ (HWz.out _ k)).mono ?_
    rintro e w3 ⟨AL, cL, rfl, hL, hb⟩
    replace k := k.trans (hb.mono k.size)
    clear hb
    clear r0 r1 r2 r3 r4 r5
    obtain ⟨r0, r1, r2, r3, r4, r5⟩ := (HRow.out _ k).cells
    dsimp only at r0 r1 r2 r3 r4 r5
    go_wp2_with fail
    refine (cC.out _ (HWz.out _ k)).mono ?_
    rintro e w4 ⟨rfl, hb⟩
    replace hL := hL.below hb
    replace k := k.trans (hb.mono k.size)
    clear hb
    clear r0 r1 r2 r3 r4 r5 hL
    go_wp2_with fail
    refine (cA.out _).mono ?_
    rintro e w5 ⟨rfl, hb⟩
    replace k := k.trans (hb.mono k.size)
    clear hb
    go_wp2
    go_ret
    exact RetV.bool rfl (HWz.out _ k)
end Go.Proofs
