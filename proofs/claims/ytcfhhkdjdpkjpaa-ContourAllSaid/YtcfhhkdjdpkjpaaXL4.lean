/- ContourAll, walked. -/
import Derived.Test.YtcfhhkdjdpkjpaaXJ15
import Derived.Test.YtcfhhkdjdpkjpaaXH4
set_option linter.unusedVariables false
set_option linter.unusedSimpArgs false
namespace Go.Proofs
open Go.RowKit Go.Proofs.Mp Go.Lib

theorem ext_bound {t : Ht} (hr : chkH t = 0) : (-10000 ≤ loV t.v ∧ loV t.v ≤ 10000) ∧ (-10000 ≤ hiV t.v ∧ hiV t.v ≤ 10000) ∧ loV t.v ≤ hiV t.v := by
  obtain ⟨a1, a2, a3, a4, a5, a6, _, _, _, _, a11⟩ := (Grd.of hr).all
  have hp : 0 < t.v.length := by rw [a5]; exact Nat.mul_pos (by omega) (by omega)
  obtain ⟨j1, g1, e1⟩ := minTo_att hp t.v.length (Nat.le_refl _)
  obtain ⟨j2, g2, e2⟩ := maxTo_att hp t.v.length (Nat.le_refl _)
  have h3 := minTo_le (v := t.v) t.v.length (Nat.le_refl _) j1 (by omega)
  have h4 := maxTo_ge (v := t.v) t.v.length (Nat.le_refl _) j1 (by omega)
  unfold loV hiV
  rw [e1, e2] at *
  exact ⟨a11 j1 (by omega), a11 j2 (by omega), h4⟩
theorem allL_small {t : Ht} {iv : Int} : smallL (allL t iv) = true := by
  unfold smallL
  rw [Bool.and_eq_true, decide_eq_true_eq, List.all_eq_true]
  unfold allL
  split
  · rename_i h
    obtain ⟨h0, h1, h2⟩ := h
    obtain ⟨b1, b2, b3⟩ := ext_bound h0
    have hN := (lvl_bound (iv := iv) (lo := loV t.v) (hi := hiV t.v) h1 h2 b1 b2 rfl (n := allN t iv) (j := 0) rfl (by omega)).2.2.1
    refine ⟨?_, fun l hl => ?_⟩
    · have := lvlL_len (f := linesT t) (linesT_len t) (flo (loV t.v) iv) iv (allN t iv)
      omega
    · unfold lvlL at hl
      rw [List.mem_flatMap] at hl
      obtain ⟨j, _, hl⟩ := hl
      exact decide_eq_true ((smallL_iff (linesT_small t _)).2 l hl)
  · simp
theorem wantTo_len {f : Int → List Ln} (hf : ∀ l, (f l).length ≤ 12288) (lo iv : Int) : ∀ k, (wantTo f lo iv k).length ≤ 12288 * k
  | 0 => by simp [wantTo]
  | k + 1 => by
    have := wantTo_len hf lo iv k
    have := hf (lo + (k : Int))
    rw [wantTo_succ, List.length_append]
    split <;> simp <;> omega
theorem cl_all {t : Ht} {w : World} (iv : Int) {n : Nat} (hn : (allL t iv).length = n) (hl : t.v.length ≤ 200) (hR : RdI w t.a t.v) : Calls Try.prog 18 #[aggH t, .int .i64 iv] w (RetL w (allL t iv) n (allE t iv)) :=
  (con_All t iv w (by omega) hR).mono fun e w' h => h.lit hn

set_option maxRecDepth 100000 in
set_option maxHeartbeats 8000000 in
theorem law_all (t : Ht) (iv : Int) (w : World) (hmax : t.v.length ≤ 9223372036854775807) (hR : RdI w t.a t.v) (hiw : (Lit.int .i64 iv).wf = true) : Calls Try.prog 4 #[aggH t, .int .i64 iv] w (RetV w (.bool true)) := by
  have hb0 : Below w.heap.size w (w.alloc (.cells (celH t) 26)) := bw1 _ _
  have hrow0 := RowH.new w t
  have cA := Lib.hid law_awake
  have HRow := Lib.hid fun (W' : World) (hb : Below (w.alloc (.cells (celH t) 26)).heap.size (w.alloc (.cells (celH t) 26)) W') => hrow0.below hb
  have HWz := Lib.hid fun (W' : World) (hb : Below (w.alloc (.cells (celH t) 26)).heap.size (w.alloc (.cells (celH t) 26)) W') => (hb0.trans (hb.mono hb0.size) : Below w.heap.size w W')
  have cF := Lib.hid fun W => law_few t W hmax
  have cE := Lib.hid fun (W' : World) (hb : Below w.heap.size w W') => ref_extentB t W' hmax (hR.below hb)
  by_cases hf : fewB t = true
  rotate_left
  · have hf : fewB t = false := by simpa using hf
    rw [hf] at cF
    clear hR hmax hf hiw
    generalize extA t = lo at *
    generalize extB t = hi at *
    generalize chkH t = r at *
    obtain ⟨x, y, tw, th, st, A, cc, v⟩ := t
    unfold aggH celH at *
    dsimp only at *
    go_enter Try.func4, Try.ntmps4
    go_upto_region 1 with fail
    generalize (w.alloc (.cells #[.int .i64 x, .int .i64 y, .int .i64 tw, .int .i64 th, .int .i64 st, .slice A v.length cc] 26)) = w0 at *
    clear hrow0 hb0
    have k : Below w0.heap.size w0 w0 := Below.refl _ _
    obtain ⟨r0, r1, r2, r3, r4, r5⟩ := (HRow.out _ k).cells
    dsimp only at r0 r1 r2 r3 r4 r5
    go_wp2_with fail
    refine (cE.out _ (HWz.out _ k)).mono ?_
    rintro e w1 ⟨rfl, hb⟩
    replace k := k.trans (hb.mono k.size)
    clear hb
    clear r0 r1 r2 r3 r4 r5
    obtain ⟨r0, r1, r2, r3, r4, r5⟩ := (HRow.out _ k).cells
    dsimp only at r0 r1 r2 r3 r4 r5
    go_wp2_with fail
    refine (cF.out _).mono ?_
    rintro e w2 ⟨rfl, hb⟩
    replace k := k.trans (hb.mono k.size)
    clear hb
    go_wp2_with fail
    refine (cA.out _).mono ?_
    rintro e w3 ⟨rfl, hb⟩
    replace k := k.trans (hb.mono k.size)
    clear hb
    go_wp2
    go_ret
    exact RetV.bool rfl (HWz.out _ k)
  have hl := (few_len hf).2.2
  rw [hf] at cF
  clear hf
  by_cases h0 : chkH t = 0
  rotate_left
  · have e1 : allL t iv = [] := by unfold allL; rw [if_neg]; rintro ⟨h, _⟩; exact h0 h
    have e2 : allE t iv = chkH t := by unfold allE; rw [if_neg h0]
    have cL := Lib.hid fun (W' : World) (hb : Below w.heap.size w W') => cl_all (t := t) iv (n := 0) (by rw [e1]; rfl) hl (hR.below hb)
    rw [e1, e2] at cL
    clear hR hmax hl e1 e2 hiw
    generalize extA t = lo at *
    generalize extB t = hi at *
    generalize chkH t = r at *
    obtain ⟨x, y, tw, th, st, A, cc, v⟩ := t
    unfold aggH celH at *
    dsimp only at *
    go_enter Try.func4, Try.ntmps4
    go_upto_region 1 with fail
    generalize (w.alloc (.cells #[.int .i64 x, .int .i64 y, .int .i64 tw, .int .i64 th, .int .i64 st, .slice A v.length cc] 26)) = w0 at *
    clear hrow0 hb0
    have k : Below w0.heap.size w0 w0 := Below.refl _ _
    obtain ⟨r0, r1, r2, r3, r4, r5⟩ := (HRow.out _ k).cells
    dsimp only at r0 r1 r2 r3 r4 r5
    go_wp2_with fail
    refine (cE.out _ (HWz.out _ k)).mono ?_
    rintro e w1 ⟨rfl, hb⟩
    replace k := k.trans (hb.mono k.size)
    clear hb
    clear r0 r1 r2 r3 r4 r5
    obtain ⟨r0, r1, r2, r3, r4, r5⟩ := (HRow.out _ k).cells
    dsimp only at r0 r1 r2 r3 r4 r5
    go_wp2_with fail
    refine (cF.out _).mono ?_
    rintro e w2 ⟨rfl, hb⟩
    replace k := k.trans (hb.mono k.size)
    clear hb
    clear r0 r1 r2 r3 r4 r5
    obtain ⟨r0, r1, r2, r3, r4, r5⟩ := (HRow.out _ k).cells
    dsimp only at r0 r1 r2 r3 r4 r5
    go_wp2_with fail
    refine (cL.out _ (HWz.out _ k)).mono ?_
    rintro e w3 ⟨AL, cL, rfl, hL, hb⟩
    replace k := k.trans (hb.mono k.size)
    clear hb
    clear r0 r1 r2 r3 r4 r5 hL
    go_wp2_with fail
    refine (cA.out _).mono ?_
    rintro e w4 ⟨rfl, hb⟩
    replace k := k.trans (hb.mono k.size)
    clear hb
    have hrn : (r != 0) = true := by simpa using h0
    go_wp2
    go_ret
    exact RetV.bool rfl (HWz.out _ k)
  have eA : extA t = loV t.v := if_pos h0
  have eB : extB t = hiV t.v := if_pos h0
  obtain ⟨b1, b2, b3⟩ := ext_bound h0
  rw [eA, eB, h0] at cE
  by_cases hiv : 1 ≤ iv ∧ iv ≤ 10000
  rotate_left
  · -- an interval out of range
    have e1 : allL t iv = [] := by unfold allL; rw [if_neg]; rintro ⟨_, h⟩; exact hiv h
    have e2 : allE t iv = 2 := by unfold allE; rw [if_pos h0, if_neg hiv]
    have cL := Lib.hid fun (W' : World) (hb : Below w.heap.size w W') => cl_all (t := t) iv (n := 0) (by rw [e1]; rfl) hl (hR.below hb)
    rw [e1, e2] at cL
    clear hR hmax hl e1 e2 eA eB h0
    generalize loV t.v = lo at *
    generalize hiV t.v = hi at *
    obtain ⟨l1, l2⟩ := b1
    obtain ⟨l3, l4⟩ := b2
    by_cases h1 : iv < 1
    · obtain ⟨x, y, tw, th, st, A, cc, v⟩ := t
      unfold aggH celH at *
      dsimp only at *
      go_enter Try.func4, Try.ntmps4
      go_upto_region 1 with fail
      generalize (w.alloc (.cells #[.int .i64 x, .int .i64 y, .int .i64 tw, .int .i64 th, .int .i64 st, .slice A v.length cc] 26)) = w0 at *
      clear hrow0 hb0
      have k : Below w0.heap.size w0 w0 := Below.refl _ _
      obtain ⟨r0, r1, r2, r3, r4, r5⟩ := (HRow.out _ k).cells
      dsimp only at r0 r1 r2 r3 r4 r5
      go_wp2_with fail
      refine (cE.out _ (HWz.out _ k)).mono ?_
      rintro e w1 ⟨rfl, hb⟩
      replace k := k.trans (hb.mono k.size)
      clear hb
      clear r0 r1 r2 r3 r4 r5
      obtain ⟨r0, r1, r2, r3, r4, r5⟩ := (HRow.out _ k).cells
      dsimp only at r0 r1 r2 r3 r4 r5
      go_wp2_with fail
      refine (cF.out _).mono ?_
      rintro e w2 ⟨rfl, hb⟩
      replace k := k.trans (hb.mono k.size)
      clear hb
      clear r0 r1 r2 r3 r4 r5
      obtain ⟨r0, r1, r2, r3, r4, r5⟩ := (HRow.out _ k).cells
      dsimp only at r0 r1 r2 r3 r4 r5
      have h2 : ¬ 0 < iv := by omega
      go_wp2_with fail
      refine (cL.out _ (HWz.out _ k)).mono ?_
      rintro e w3 ⟨AL, cL, rfl, hL, hb⟩
      replace k := k.trans (hb.mono k.size)
      clear hb
      clear r0 r1 r2 r3 r4 r5 hL
      go_wp2_with fail
      refine (cA.out _).mono ?_
      rintro e w4 ⟨rfl, hb⟩
      replace k := k.trans (hb.mono k.size)
      clear hb
      go_wp2
      go_ret
      exact RetV.bool rfl (HWz.out _ k)
    · have h2 : 0 < iv := by omega
      have h3 : 10000 < iv := by omega
      have hq : (hi - lo).tdiv iv ≤ 1 ∧ 0 ≤ (hi - lo).tdiv iv := by
        rw [Int.tdiv_eq_ediv_of_nonneg (by omega)]
        refine ⟨?_, Int.ediv_nonneg (by omega) (by omega)⟩
        have : (hi - lo) / iv < 2 := Int.ediv_lt_of_lt_mul h2 (by omega)
        omega
      obtain ⟨q1, q2⟩ := hq
      have hw : IntKind.i64.wrap ((hi - lo).tdiv iv) = (hi - lo).tdiv iv := IntWalk.i64_in _ (by omega)
      have hz : ¬ iv = 0 := by omega
      have hn : ¬ 40 < (hi - lo).tdiv iv := by omega
      obtain ⟨x, y, tw, th, st, A, cc, v⟩ := t
      unfold aggH celH at *
      dsimp only at *
      go_enter Try.func4, Try.ntmps4
      go_upto_region 1 with fail
      generalize (w.alloc (.cells #[.int .i64 x, .int .i64 y, .int .i64 tw, .int .i64 th, .int .i64 st, .slice A v.length cc] 26)) = w0 at *
      clear hrow0 hb0
      have k : Below w0.heap.size w0 w0 := Below.refl _ _
      obtain ⟨r0, r1, r2, r3, r4, r5⟩ := (HRow.out _ k).cells
      dsimp only at r0 r1 r2 r3 r4 r5
      go_wp2_with fail
      refine (cE.out _ (HWz.out _ k)).mono ?_
      rintro e w1 ⟨rfl, hb⟩
      replace k := k.trans (hb.mono k.size)
      clear hb
      clear r0 r1 r2 r3 r4 r5
      obtain ⟨r0, r1, r2, r3, r4, r5⟩ := (HRow.out _ k).cells
      dsimp only at r0 r1 r2 r3 r4 r5
      go_wp2_with fail
      refine (cF.out _).mono ?_
      rintro e w2 ⟨rfl, hb⟩
      replace k := k.trans (hb.mono k.size)
      clear hb
      clear r0 r1 r2 r3 r4 r5
      obtain ⟨r0, r1, r2, r3, r4, r5⟩ := (HRow.out _ k).cells
      dsimp only at r0 r1 r2 r3 r4 r5
      go_wp2_with fail
      refine (cL.out _ (HWz.out _ k)).mono ?_
      rintro e w3 ⟨AL, cL, rfl, hL, hb⟩
      replace k := k.trans (hb.mono k.size)
      clear hb
      clear r0 r1 r2 r3 r4 r5 hL
      go_wp2_with fail
      refine (cA.out _).mono ?_
      rintro e w4 ⟨rfl, hb⟩
      replace k := k.trans (hb.mono k.size)
      clear hb
      go_wp2
      go_ret
      exact RetV.bool rfl (HWz.out _ k)
  obtain ⟨v1, v2⟩ := hiv
  have h2 : 0 < iv := by omega
  have hq : (hiV t.v - loV t.v).tdiv iv ≤ 20000 ∧ 0 ≤ (hiV t.v - loV t.v).tdiv iv := by
    rw [Int.tdiv_eq_ediv_of_nonneg (by omega)]
    refine ⟨?_, Int.ediv_nonneg (by omega) (by omega)⟩
    have := Int.ediv_le_self iv (show 0 ≤ hiV t.v - loV t.v by omega)
    omega
  obtain ⟨q1, q2⟩ := hq
  have hw : IntKind.i64.wrap ((hiV t.v - loV t.v).tdiv iv) = (hiV t.v - loV t.v).tdiv iv := IntWalk.i64_in _ (by omega)
  have hz : ¬ iv = 0 := by omega
  by_cases hn : 40 < (hiV t.v - loV t.v).tdiv iv
  · clear hR hmax hl eA eB h0
    generalize loV t.v = lo at *
    generalize hiV t.v = hi at *
    obtain ⟨l1, l2⟩ := b1
    obtain ⟨l3, l4⟩ := b2
    obtain ⟨x, y, tw, th, st, A, cc, v⟩ := t
    unfold aggH celH at *
    dsimp only at *
    go_enter Try.func4, Try.ntmps4
    go_upto_region 1 with fail
    generalize (w.alloc (.cells #[.int .i64 x, .int .i64 y, .int .i64 tw, .int .i64 th, .int .i64 st, .slice A v.length cc] 26)) = w0 at *
    clear hrow0 hb0
    have k : Below w0.heap.size w0 w0 := Below.refl _ _
    obtain ⟨r0, r1, r2, r3, r4, r5⟩ := (HRow.out _ k).cells
    dsimp only at r0 r1 r2 r3 r4 r5
    go_wp2_with fail
    refine (cE.out _ (HWz.out _ k)).mono ?_
    rintro e w1 ⟨rfl, hb⟩
    replace k := k.trans (hb.mono k.size)
    clear hb
    clear r0 r1 r2 r3 r4 r5
    obtain ⟨r0, r1, r2, r3, r4, r5⟩ := (HRow.out _ k).cells
    dsimp only at r0 r1 r2 r3 r4 r5
    go_wp2_with fail
    refine (cF.out _).mono ?_
    rintro e w2 ⟨rfl, hb⟩
    replace k := k.trans (hb.mono k.size)
    clear hb
    go_wp2_with fail
    refine (cA.out _).mono ?_
    rintro e w3 ⟨rfl, hb⟩
    replace k := k.trans (hb.mono k.size)
    clear hb
    go_wp2
    go_ret
    exact RetV.bool rfl (HWz.out _ k)
  have e2 : allE t iv = 0 := by unfold allE; rw [if_pos h0, if_pos ⟨v1, v2⟩]
  obtain ⟨n, hnl⟩ : ∃ n, (allL t iv).length = n := ⟨_, rfl⟩
  have cL := Lib.hid fun (W' : World) (hb : Below w.heap.size w W') => cl_all (t := t) iv hnl hl (hR.below hb)
  rw [e2] at cL
  have cK := Lib.hid fun (level : Int) (W' : World) (hb : Below w.heap.size w W') => con_Lines t level W' (by omega) (hR.below hb)
  rw [h0] at cK
  obtain ⟨K, hK⟩ : ∃ K : Nat, hiV t.v = loV t.v + (K : Int) := ⟨(hiV t.v - loV t.v).toNat, by omega⟩
  have HALL := Lib.hid (show wantTo (linesT t) (loV t.v) iv (K + 1) = allL t iv from by
    rw [(want_all (linesT t) (lo := loV t.v) h2 K).1]
    unfold allL allN
    rw [if_pos ⟨h0, v1, v2⟩, hK])
  have HS := Lib.hid (allL_small (t := t) (iv := iv))
  have HLEN := Lib.hid (fun k => wantTo_len (linesT_len t) (loV t.v) iv k)
  have HSUC := Lib.hid (fun k => wantTo_succ (linesT t) (loV t.v) iv k)
  have HW0 := Lib.hid (show wantTo (linesT t) (loV t.v) iv 0 = [] from rfl)
  have HKL := Lib.hid (linesT_len t)
  have hKb : K ≤ 20000 := by omega
  clear hR hmax hl eA eB h0 hnl e2
  generalize allL t iv = AL at *
  generalize hiV t.v = hi at *
  generalize wantTo (linesT t) (loV t.v) iv = LV at *
  generalize linesT t = f at *
  generalize loV t.v = lo at *
  subst hK
  obtain ⟨l1, l2⟩ := b1
  obtain ⟨l3, l4⟩ := b2
  obtain ⟨x, y, tw, th, st, A, cc, v⟩ := t
  unfold aggH celH at *
  dsimp only at *
  go_enter Try.func4, Try.ntmps4
  go_upto_region 1 with fail
  generalize (w.alloc (.cells #[.int .i64 x, .int .i64 y, .int .i64 tw, .int .i64 th, .int .i64 st, .slice A v.length cc] 26)) = w0 at *
  clear hrow0 hb0
  have k : Below w0.heap.size w0 w0 := Below.refl _ _
  obtain ⟨r0, r1, r2, r3, r4, r5⟩ := (HRow.out _ k).cells
  dsimp only at r0 r1 r2 r3 r4 r5
  go_wp2_with fail
  refine (cE.out _ (HWz.out _ k)).mono ?_
  rintro e w1 ⟨rfl, hb⟩
  replace k := k.trans (hb.mono k.size)
  clear hb
  clear r0 r1 r2 r3 r4 r5
  obtain ⟨r0, r1, r2, r3, r4, r5⟩ := (HRow.out _ k).cells
  dsimp only at r0 r1 r2 r3 r4 r5
  go_wp2_with fail
  refine (cF.out _).mono ?_
  rintro e w2 ⟨rfl, hb⟩
  replace k := k.trans (hb.mono k.size)
  clear hb
  clear r0 r1 r2 r3 r4 r5
  obtain ⟨r0, r1, r2, r3, r4, r5⟩ := (HRow.out _ k).cells
  dsimp only at r0 r1 r2 r3 r4 r5
  go_wp2_with fail
  refine (cL.out _ (HWz.out _ k)).mono ?_
  rintro e w3 ⟨AL, cL, rfl, hL, hb⟩
  replace k := k.trans (hb.mono k.size)
  clear hb
  clear r0 r1 r2 r3 r4 r5 hn hw q1 q2 b3
  go_upto_block 0 with fail
  have HK0 := Lib.hid k
  have HL0 := Lib.hid hL
  clear k hL
  go_wp2_with fail
  generalize w3 = wb at *
  go_loopw [10, 11] (fun v10 l wr => ∃ j : Nat, j ≤ K + 1 ∧ l = .int .i64 (lo + (j : Int)) ∧ Hid (LnR wr wb.heap.size v10 (LV j)) ∧ Below wb.heap.size wb wr) (fun _ l _ => (lo + (K : Int) + 1 - intOf l).toNat)
  case atStart => exact ⟨0, by omega, by simp, Lib.hid (by rw [HW0.out]; exact LnR.nil _ _), Below.refl _ _⟩
  case round =>
    obtain ⟨j, hj, rfl, hLv, hbr⟩ := hrel
    by_cases hlt : j < K + 1
    rotate_left
    · have hjn : j = K + 1 := by omega
      subst hjn
      have hge : ¬ lo + ((K + 1 : Nat) : Int) ≤ lo + (K : Int) := by omega
      have hWL := HALL.out ▸ hLv.out.read
      have hA := HL0.out.below hbr
      have kr := HK0.out.trans (hbr.mono HK0.out.size)
      clear hLv hbr
      generalize wr = wq at *
      go_wp2_with fail
      refine (c_same (z := true) (decide_eq_true rfl) HS.out HS.out hA hWL).mono ?_
      rintro e w6 ⟨rfl, hb⟩
      replace kr := kr.trans (hb.mono kr.size)
      clear hA hWL hb
      go_wp2_with fail
      refine (cA.out _).mono ?_
      rintro e w7 ⟨rfl, hb⟩
      replace kr := kr.trans (hb.mono kr.size)
      go_wp2
      go_ret
      exact RetV.bool rfl (HWz.out _ kr)
    · have hle : lo + (j : Int) ≤ lo + (K : Int) := by omega
      have HSj := Lib.hid (HSUC.out j)
      by_cases h0j : 0 < j
      rotate_left
      · have hng : ¬ lo < lo + (j : Int) := by omega
        have HSj2 := Lib.hid (show LV (j + 1) = LV j from by rw [HSj.out, if_neg (fun h => h0j h.1), List.append_nil])
        go_wp2_with fail
        go_roundw
        case rel => exact ⟨j + 1, by omega, by go_num, Lib.hid (by rw [HSj2.out]; exact hLv.out), hbr⟩
        case measure => simp [intOf]; omega
      · have hgt : lo < lo + (j : Int) := by omega
        by_cases hd : (lo + (j : Int)).tmod iv = 0
        rotate_left
        · have HSj2 := Lib.hid (show LV (j + 1) = LV j from by rw [HSj.out, if_neg (fun h => hd h.2), List.append_nil])
          go_wp2_with fail
          go_roundw
          case rel => exact ⟨j + 1, by omega, by go_num, Lib.hid (by rw [HSj2.out]; exact hLv.out), hbr⟩
          case measure => simp [intOf]; omega
        · have HSj2 := Lib.hid (show LV (j + 1) = LV j ++ f (lo + (j : Int)) from by rw [HSj.out, if_pos ⟨h0j, hd⟩])
          have kr := HK0.out.trans (hbr.mono HK0.out.size)
          obtain ⟨r0, r1, r2, r3, r4, r5⟩ := (HRow.out _ kr).cells
          dsimp only at r0 r1 r2 r3 r4 r5
          have cLj := Lib.hid (cK.out (lo + (j : Int)) wr (HWz.out _ kr))
          have hKl : (LV j ++ f (lo + (j : Int))).length ≤ 12288 * (j + 1) := by rw [← HSj2.out]; exact HLEN.out (j + 1)
          rw [List.length_append] at hKl
          generalize f (lo + (j : Int)) = Kf at *
          go_wp2_with fail
          refine cLj.out.mono ?_
          rintro e w5 ⟨vk, rfl, hK, hb5⟩
          have hsz : wb.heap.size ≤ wr.heap.size := hbr.size
          have hL5 := hLv.out.below hb5
          have hob : ∀ q, u10.ownBlock = some q → q < wr.heap.size := fun q e => (hLv.out.own q e).2
          have hlen : (LV j).length + Kf.length ≤ 1000000000 := by omega
          have hsz5 : wb.heap.size ≤ w5.heap.size := Nat.le_trans hsz hb5.size
          have HB5 := Lib.hid (hbr.trans (hb5.mono hsz))
          clear r0 r1 r2 r3 r4 r5 cLj hb5 hbr kr
          go_wp2_with (at_builtin; refine Try.appLs hL5 hK hob hsz rfl _ _ rfl rfl rfl hlen hsz5 ?_; intro v9 w9 hL9 hb9)
          go_roundw
          case rel => exact ⟨j + 1, by omega, by go_num, Lib.hid (by rw [HSj2.out]; exact hL9), HB5.out.trans hb9⟩
          case measure => simp [intOf]; omega
end Go.Proofs
