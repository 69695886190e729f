/- The reference's Check and Extent again, for lists of any length. -/
import Derived.Test.YtcfhhkdjdpkjpaaXH3
set_option linter.unusedVariables false
set_option linter.unusedSimpArgs false
namespace Go.Proofs
open Go.RowKit Go.Proofs.Mp Go.Lib

set_option maxRecDepth 100000 in
set_option maxHeartbeats 8000000 in
theorem ref_checkB (t : Ht) (w : World) (hmax : t.v.length ≤ 9223372036854775807) (hR : RdI w t.a t.v) : Calls Try.prog 23 #[aggH t] w (RetV w (.int .i64 (chkH t))) := by
  have HC := Lib.hid (chkH_ref t)
  generalize chkH t = r at *
  have HW0 := Lib.hid fun (W : World) (hW : Below (w.alloc (.cells (celH t) 26)).heap.size (w.alloc (.cells (celH t) 26)) W) => (RowH.new w t).below hW
  have cA := Lib.hid fun (col row : Int) (W : World) (h0 : (-1048576 ≤ t.x ∧ t.x ≤ 1048576 ∧ -1048576 ≤ t.y ∧ t.y ≤ 1048576) ∧ (1 ≤ t.st ∧ t.st ≤ 1048576)) (h3 : 0 ≤ col) (h4 : col ≤ 64) (h5 : 0 ≤ row) (h6 : row ≤ 64) => ref_at t col row W h0.1 h0.2 h3 h4 h5 h6
  obtain ⟨x, y, tw, th, st, A, c, v⟩ := t
  unfold farX farY at HC
  unfold aggH celH at *
  dsimp only at *
  have cP := Lib.hid fun W => ref_point (x, y) W
  have cF := Lib.hid fun W => ref_point (x + (tw - 1) * st, y + (th - 1) * st) W
  unfold aggP at cP cF
  dsimp only at cP cF
  have hb0 := bw1 w (.cells #[.int .i64 x, .int .i64 y, .int .i64 tw, .int .i64 th, .int .i64 st, .slice A v.length c] 26)
  have HB0 := Lib.hid hb0
  clear hb0
  have k : Below (w.alloc (.cells #[.int .i64 x, .int .i64 y, .int .i64 tw, .int .i64 th, .int .i64 st, .slice A v.length c] 26)).heap.size (w.alloc (.cells #[.int .i64 x, .int .i64 y, .int .i64 tw, .int .i64 th, .int .i64 st, .slice A v.length c] 26)) (w.alloc (.cells #[.int .i64 x, .int .i64 y, .int .i64 tw, .int .i64 th, .int .i64 st, .slice A v.length c] 26)) := Below.refl _ _
  obtain ⟨d0, d1, d2, d3, d4, d5⟩ := (HW0.out _ k).cells
  dsimp only at d0 d1 d2 d3 d4 d5
  go_enter Try.func23, Try.ntmps23
  go_upto_region 1 with fail
  have HW := HW0
  clear HW0
  generalize (w.alloc (.cells #[.int .i64 x, .int .i64 y, .int .i64 tw, .int .i64 th, .int .i64 st, .slice A v.length c] 26)) = w0 at *
  by_cases hp : Vp (x, y)
  rotate_left
  · have HC2 := Lib.hid (HC.out.trans (if_neg fun h => hp h.1))
    have hd : decide (Vp (x, y)) = false := decide_eq_false hp
    rw [hd] at cP
    clear hp hd HC
    go_wp2_with fail
    refine (cP.out _).mono ?_
    rintro e w1 ⟨rfl, hb⟩
    replace k := k.trans (hb.mono k.size)
    clear hb d0 d1 d2 d3 d4 d5
    obtain ⟨d0, d1, d2, d3, d4, d5⟩ := (HW.out _ k).cells
    dsimp only at d0 d1 d2 d3 d4 d5
    have HK := Lib.hid (HB0.out.trans (k.mono HB0.out.size))
    clear k
    go_wp2
    go_ret
    exact RetV.int (by rw [HC2.out]) HK.out
  have hd : decide (Vp (x, y)) = true := decide_eq_true hp
  rw [hd] at cP
  clear hd
  by_cases q1 : tw < 2
  · have HC2 := Lib.hid (HC.out.trans (if_neg fun h => (by omega)))
    clear hp HC
    go_wp2_with fail
    refine (cP.out _).mono ?_
    rintro e w2 ⟨rfl, hb⟩
    replace k := k.trans (hb.mono k.size)
    clear hb d0 d1 d2 d3 d4 d5
    obtain ⟨d0, d1, d2, d3, d4, d5⟩ := (HW.out _ k).cells
    dsimp only at d0 d1 d2 d3 d4 d5
    have HK := Lib.hid (HB0.out.trans (k.mono HB0.out.size))
    clear k
    go_wp2
    go_ret
    exact RetV.int (by rw [HC2.out]) HK.out
  by_cases q2 : 64 < tw
  · have HC2 := Lib.hid (HC.out.trans (if_neg fun h => (by omega)))
    clear hp HC
    go_wp2_with fail
    refine (cP.out _).mono ?_
    rintro e w3 ⟨rfl, hb⟩
    replace k := k.trans (hb.mono k.size)
    clear hb d0 d1 d2 d3 d4 d5
    obtain ⟨d0, d1, d2, d3, d4, d5⟩ := (HW.out _ k).cells
    dsimp only at d0 d1 d2 d3 d4 d5
    have HK := Lib.hid (HB0.out.trans (k.mono HB0.out.size))
    clear k
    go_wp2
    go_ret
    exact RetV.int (by rw [HC2.out]) HK.out
  by_cases q3 : th < 2
  · have HC2 := Lib.hid (HC.out.trans (if_neg fun h => (by omega)))
    clear hp HC
    go_wp2_with fail
    refine (cP.out _).mono ?_
    rintro e w4 ⟨rfl, hb⟩
    replace k := k.trans (hb.mono k.size)
    clear hb d0 d1 d2 d3 d4 d5
    obtain ⟨d0, d1, d2, d3, d4, d5⟩ := (HW.out _ k).cells
    dsimp only at d0 d1 d2 d3 d4 d5
    have HK := Lib.hid (HB0.out.trans (k.mono HB0.out.size))
    clear k
    go_wp2
    go_ret
    exact RetV.int (by rw [HC2.out]) HK.out
  by_cases q4 : 64 < th
  · have HC2 := Lib.hid (HC.out.trans (if_neg fun h => (by omega)))
    clear hp HC
    go_wp2_with fail
    refine (cP.out _).mono ?_
    rintro e w5 ⟨rfl, hb⟩
    replace k := k.trans (hb.mono k.size)
    clear hb d0 d1 d2 d3 d4 d5
    obtain ⟨d0, d1, d2, d3, d4, d5⟩ := (HW.out _ k).cells
    dsimp only at d0 d1 d2 d3 d4 d5
    have HK := Lib.hid (HB0.out.trans (k.mono HB0.out.size))
    clear k
    go_wp2
    go_ret
    exact RetV.int (by rw [HC2.out]) HK.out
  by_cases q5 : st < 1
  · have HC2 := Lib.hid (HC.out.trans (if_neg fun h => (by omega)))
    clear hp HC
    go_wp2_with fail
    refine (cP.out _).mono ?_
    rintro e w6 ⟨rfl, hb⟩
    replace k := k.trans (hb.mono k.size)
    clear hb d0 d1 d2 d3 d4 d5
    obtain ⟨d0, d1, d2, d3, d4, d5⟩ := (HW.out _ k).cells
    dsimp only at d0 d1 d2 d3 d4 d5
    have HK := Lib.hid (HB0.out.trans (k.mono HB0.out.size))
    clear k
    go_wp2
    go_ret
    exact RetV.int (by rw [HC2.out]) HK.out
  by_cases q6 : 1048576 < st
  · have HC2 := Lib.hid (HC.out.trans (if_neg fun h => (by omega)))
    clear hp HC
    go_wp2_with fail
    refine (cP.out _).mono ?_
    rintro e w7 ⟨rfl, hb⟩
    replace k := k.trans (hb.mono k.size)
    clear hb d0 d1 d2 d3 d4 d5
    obtain ⟨d0, d1, d2, d3, d4, d5⟩ := (HW.out _ k).cells
    dsimp only at d0 d1 d2 d3 d4 d5
    have HK := Lib.hid (HB0.out.trans (k.mono HB0.out.size))
    clear k
    go_wp2
    go_ret
    exact RetV.int (by rw [HC2.out]) HK.out
  have HC1 := Lib.hid (HC.out.trans (if_pos ⟨hp, by omega, by omega, by omega, by omega, by omega, by omega⟩))
  clear HC
  unfold Vp at hp
  dsimp only at hp
  obtain ⟨x1, x2, x3, x4⟩ := hp
  obtain ⟨m1, m2⟩ := grid_mul (show 2 ≤ tw by omega) (show tw ≤ 64 by omega) (show 1 ≤ st by omega) (show st ≤ 1048576 by omega)
  obtain ⟨m3, m4⟩ := grid_mul (show 2 ≤ th by omega) (show th ≤ 64 by omega) (show 1 ≤ st by omega) (show st ≤ 1048576 by omega)
  obtain ⟨m5, m6⟩ := grid_mul2 (show 2 ≤ tw by omega) (show tw ≤ 64 by omega) (show 2 ≤ th by omega) (show th ≤ 64 by omega)
  have cA2 := Lib.hid fun W => cA.out (tw - 1) (th - 1) W (by omega) (by omega) (by omega) (by omega) (by omega)
  go_wp2_with fail
  refine (cP.out _).mono ?_
  rintro e w8 ⟨rfl, hb⟩
  replace k := k.trans (hb.mono k.size)
  clear hb d0 d1 d2 d3 d4 d5
  obtain ⟨d0, d1, d2, d3, d4, d5⟩ := (HW.out _ k).cells
  dsimp only at d0 d1 d2 d3 d4 d5
  go_wp2_with fail
  refine (cA2.out _).mono ?_
  rintro e w9 ⟨rfl, hb⟩
  replace k := k.trans (hb.mono k.size)
  clear hb d0 d1 d2 d3 d4 d5
  obtain ⟨d0, d1, d2, d3, d4, d5⟩ := (HW.out _ k).cells
  dsimp only at d0 d1 d2 d3 d4 d5
  by_cases hf : Vp (x + (tw - 1) * st, y + (th - 1) * st)
  rotate_left
  · have HC2 := Lib.hid (HC1.out.trans (if_neg hf))
    have hd : decide (Vp (x + (tw - 1) * st, y + (th - 1) * st)) = false := decide_eq_false hf
    rw [hd] at cF
    clear hf hd HC1
    go_wp2_with fail
    refine (cF.out _).mono ?_
    rintro e w10 ⟨rfl, hb⟩
    replace k := k.trans (hb.mono k.size)
    clear hb d0 d1 d2 d3 d4 d5
    obtain ⟨d0, d1, d2, d3, d4, d5⟩ := (HW.out _ k).cells
    dsimp only at d0 d1 d2 d3 d4 d5
    have HK := Lib.hid (HB0.out.trans (k.mono HB0.out.size))
    clear k
    go_wp2
    go_ret
    exact RetV.int (by rw [HC2.out]) HK.out
  have hd : decide (Vp (x + (tw - 1) * st, y + (th - 1) * st)) = true := decide_eq_true hf
  rw [hd] at cF
  have HC2 := Lib.hid (HC1.out.trans (if_pos hf))
  clear hd HC1 hf
  go_wp2_with fail
  refine (cF.out _).mono ?_
  rintro e w11 ⟨rfl, hb⟩
  replace k := k.trans (hb.mono k.size)
  clear hb d0 d1 d2 d3 d4 d5
  obtain ⟨d0, d1, d2, d3, d4, d5⟩ := (HW.out _ k).cells
  dsimp only at d0 d1 d2 d3 d4 d5
  by_cases hl : (v.length : Int) = tw * th
  rotate_left
  · have hl2 : ((v.length : Int) != tw * th) = true := by rw [bne_iff_ne]; exact hl
    have HC3 := Lib.hid (HC2.out.trans (if_neg hl))
    clear HC2 hl
    have HC2 := HC3
    have HK := Lib.hid (HB0.out.trans (k.mono HB0.out.size))
    clear k
    go_wp2
    go_ret
    exact RetV.int (by rw [HC2.out]) HK.out
  have hl2 : ((v.length : Int) != tw * th) = false := by rw [bne_eq_false_iff_eq]; exact hl
  have HC3 := Lib.hid (HC2.out.trans (if_pos hl))
  have HL := Lib.hid hl
  clear HC2 hl
  go_upto_block 0 with fail
  clear HL hl2 q1 q2 q3 q4 q5 q6 x1 x2 x3 x4 m1 m2 m3 m4 m5 m6 cP cA cF cA2
  go_wp2_with fail
  go_loopw [3] (fun i wr => ∃ j : Nat, j ≤ v.length ∧ i = .int .i64 j ∧ (∀ q, q < j → hgtB v[q]! = true) ∧ Below w0.heap.size w0 wr) (fun i _ => v.length - (intOf i).toNat)
  case atStart => exact ⟨0, by omega, rfl, fun q hq => by omega, k⟩
  case round =>
    clear d0 d1 d2 d3 d4 d5 k
    obtain ⟨j, hj, rfl, hall, k⟩ := hrel
    obtain ⟨d0, d1, d2, d3, d4, d5⟩ := (HW.out _ k).cells
    dsimp only at d0 d1 d2 d3 d4 d5
    have kz := HB0.out.trans (k.mono HB0.out.size)
    by_cases hlt : j < v.length
    · obtain ⟨b, off, rfl, hb, g1⟩ := RdI.get hR kz hlt
      have HA := Lib.hid hall
      have HJ := Lib.hid fun h => no_hgts hlt h
      have HS := Lib.hid fun (h : hgtB v[j]! = true) => (show ∀ q, q < j + 1 → hgtB v[q]! = true from fun q hq => by
        rcases Nat.lt_succ_iff_lt_or_eq.1 hq with h1 | rfl
        · exact hall q h1
        · exact h)
      obtain ⟨z, hz⟩ : ∃ z, v[j]! = z := ⟨_, rfl⟩
      rw [hz] at g1 HJ HS
      clear hz hall
      have HK := Lib.hid k
      clear k kz
      by_cases z1 : z < -10000
      · have HJ2 := Lib.hid (HJ.out (hgt_lo z1))
        go_wp2
        go_ret
        exact RetV.int (by rw [HC3.out, HJ2.out] <;> rfl) (HB0.out.trans (HK.out.mono HB0.out.size))
      by_cases z2 : 10000 < z
      · have HJ2 := Lib.hid (HJ.out (hgt_hi z2))
        go_wp2
        go_ret
        exact RetV.int (by rw [HC3.out, HJ2.out] <;> rfl) (HB0.out.trans (HK.out.mono HB0.out.size))
      have HS2 := Lib.hid (HS.out (hgt_ok z1 z2))
      go_wp2
      go_roundw
      case rel => exact ⟨j + 1, by omega, by go_num, HS2.out, HK.out⟩
      case measure => simp [intOf]; omega
    · obtain rfl : j = v.length := by omega
      have HA := Lib.hid (all_hgts hall)
      have HK := Lib.hid kz
      clear hall k kz
      go_wp2
      go_ret
      exact RetV.int (by rw [HC3.out, HA.out] <;> rfl) HK.out
set_option maxRecDepth 100000 in
set_option maxHeartbeats 4000000 in
theorem ref_extentB (t : Ht) (w : World) (hmax : t.v.length ≤ 9223372036854775807) (hR : RdI w t.a t.v) : Calls Try.prog 17 #[aggH t] w (RetV w (.tuple #[.int .i64 (extA t), .int .i64 (extB t), .int .i64 (chkH t)])) := by
  have hb0 : Below w.heap.size w (w.alloc (.cells (celH t) 26)) := bw1 _ _
  have cC := Lib.hid (ref_checkB t (w.alloc (.cells (celH t) 26)) hmax (hR.below hb0))
  have HW := Lib.hid fun (W : World) (hW : Below (w.alloc (.cells (celH t) 26)).heap.size (w.alloc (.cells (celH t) 26)) W) => (RowH.new w t).below hW
  have HB0 := Lib.hid hb0
  by_cases h0 : chkH t = 0
  · have HA := Lib.hid (show extA t = loV t.v from if_pos h0)
    have HB := Lib.hid (show extB t = hiV t.v from if_pos h0)
    rw [HA.out, HB.out]
    have hp := chkH_pos h0
    rw [h0] at cC ⊢
    obtain ⟨b, off, hA, hbb, hcc⟩ := RdI.all hR hp
    have HCC := Lib.hid hcc
    have HA0 := Lib.hid (show minTo t.v 0 = t.v[0]! from rfl)
    have HB1 := Lib.hid (show maxTo t.v 0 = t.v[0]! from rfl)
    have HAS := Lib.hid (show ∀ k, minTo t.v (k + 1) = min (minTo t.v k) t.v[k]! from fun _ => rfl)
    have HBS := Lib.hid (show ∀ k, maxTo t.v (k + 1) = max (maxTo t.v k) t.v[k]! from fun _ => rfl)
    have HAE := Lib.hid (show loV t.v = minTo t.v t.v.length from rfl)
    have HBE := Lib.hid (show hiV t.v = maxTo t.v t.v.length from rfl)
    clear hcc hR HA HB h0 hb0
    obtain ⟨x, y, tw, th, st, A, c, v⟩ := t
    dsimp only at *
    subst hA
    unfold aggH celH at *
    dsimp only at *
    obtain ⟨d0, d1, d2, d3, d4, d5⟩ := (HW.out _ (Below.refl _ _)).cells
    dsimp only at d0 d1 d2 d3 d4 d5
    go_enter Try.func17, Try.ntmps17
    go_upto_region 1 with fail
    generalize (w.alloc (.cells #[.int .i64 x, .int .i64 y, .int .i64 tw, .int .i64 th, .int .i64 st, .slice (some ⟨b, off, none⟩) v.length c] 26)) = w0 at *
    go_wp2_with fail
    refine cC.out.mono ?_
    rintro e w1 ⟨rfl, k⟩
    clear d0 d1 d2 d3 d4 d5
    obtain ⟨d0, d1, d2, d3, d4, d5⟩ := (HW.out _ k).cells
    dsimp only at d0 d1 d2 d3 d4 d5
    have kz := HB0.out.trans (k.mono HB0.out.size)
    have g0 := HCC.out _ kz 0 hp
    rw [Nat.add_zero] at g0
    obtain ⟨z0, hz0⟩ : ∃ z, v[0]! = z := ⟨_, rfl⟩
    rw [hz0] at g0 HA0 HB1
    clear hz0
    go_upto_region 4 with fail
    go_quiet (fail)
    have k1 := below_drewN k nq
    generalize w1.drewN nq = w2 at *
    clear d0 d1 d2 d3 d4 d5 g0 k kz
    go_wp2_with fail
    go_loopw [6, 7, 8] (fun a b i wr => ∃ q : Nat, q ≤ v.length ∧ i = .int .i64 q ∧ a = .int .i64 (minTo v q) ∧ b = .int .i64 (maxTo v q) ∧ Below w0.heap.size w0 wr) (fun _ _ i _ => v.length - (intOf i).toNat)
    case atStart => exact ⟨0, by omega, rfl, by rw [HA0.out], by rw [HB1.out], k1⟩
    case round =>
      obtain ⟨q, hq, rfl, rfl, rfl, k⟩ := hrel
      obtain ⟨d0, d1, d2, d3, d4, d5⟩ := (HW.out _ k).cells
      dsimp only at d0 d1 d2 d3 d4 d5
      have kz := HB0.out.trans (k.mono HB0.out.size)
      by_cases hlt : q < v.length
      · have g1 := HCC.out _ kz q hlt
        have HX := Lib.hid (HAS.out q)
        have HY := Lib.hid (HBS.out q)
        obtain ⟨z, hz⟩ : ∃ z, v[q]! = z := ⟨_, rfl⟩
        rw [hz] at g1 HX HY
        clear hz kz
        generalize minTo v q = a at *
        generalize maxTo v q = b' at *
        go_upto_region 8 with fail
        go_quiet (fail)
        have HK := Lib.hid (below_drewN k nq)
        clear k d0 d1 d2 d3 d4 d5 g1
        go_wp2
        go_roundw
        case rel => exact ⟨q + 1, by omega, by go_num, by rw [HX.out], by rw [HY.out], HK.out⟩
        case measure => simp [intOf]; omega
      · obtain rfl : q = v.length := by omega
        have HK := Lib.hid kz
        clear k kz hq
        generalize minTo v v.length = a at *
        generalize maxTo v v.length = b' at *
        go_wp2
        refine bodyPost_ret (v := .tuple #[.int .i64 a, .int .i64 b', .int .i64 0]) (by simp [results, Try.results17, go_sem]) rfl ?_
        exact ⟨by rw [HAE.out, HBE.out], HK.out⟩
  · have HA := Lib.hid (show extA t = 0 from if_neg h0)
    have HB := Lib.hid (show extB t = 0 from if_neg h0)
    rw [HA.out, HB.out]
    have hz : (chkH t != 0) = true := by simp [h0]
    clear HA HB h0 hR hb0
    generalize chkH t = r at *
    obtain ⟨x, y, tw, th, st, A, c, v⟩ := t
    unfold aggH celH at *
    dsimp only at *
    obtain ⟨d0, d1, d2, d3, d4, d5⟩ := (HW.out _ (Below.refl _ _)).cells
    dsimp only at d0 d1 d2 d3 d4 d5
    go_enter Try.func17, Try.ntmps17
    go_upto_region 1 with fail
    generalize (w.alloc (.cells #[.int .i64 x, .int .i64 y, .int .i64 tw, .int .i64 th, .int .i64 st, .slice A v.length c] 26)) = w0 at *
    go_wp2_with fail
    refine cC.out.mono ?_
    rintro e w1 ⟨rfl, k⟩
    clear d0 d1 d2 d3 d4 d5
    have HK := Lib.hid (HB0.out.trans (k.mono HB0.out.size))
    clear k
    go_wp2
    refine bodyPost_ret (v := .tuple #[.int .i64 0, .int .i64 0, .int .i64 r]) (by simp [results, Try.results17, go_sem]) rfl ?_
    exact ⟨rfl, HK.out⟩
end Go.Proofs
