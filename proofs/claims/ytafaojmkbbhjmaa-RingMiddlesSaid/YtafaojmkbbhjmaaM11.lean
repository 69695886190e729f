/- The reference's Middle, walked. -/
import Derived.Test.YtafaojmkbbhjmaaM10
import Derived.Test.YtafaojmkbbhjmaaM8
import Derived.Test.YtafaojmkbbhjmaaC7
set_option linter.unusedVariables false
set_option linter.unusedSimpArgs false
namespace Go.Proofs
open Go.RowKit Go.Proofs.Mp

theorem pcL_len (l : List Pt) (y : Int) (hn : l.length ≤ 4096) : (pcL l y).length ≤ 1000000 := by
  have h1 := pcs_len (inB l y) (atTo l y l.length) (atTo l y l.length).length
  have h2 := atTo_len l y l.length
  unfold pcL
  omega
theorem pcL_in {l : List Pt} {y : Int} (hv : allVp l) : ∀ j, j < (pcL l y).length → inR50 (pcL l y)[j]! := by
  intro j hj
  have hm : (pcL l y)[j]! ∈ pcL l y := by rw [getElem!_pos _ j hj]; exact List.getElem_mem _
  generalize (pcL l y)[j]! = r at *
  have hat : ∀ i, i < (atTo l y l.length).length → -1048576 ≤ (atTo l y l.length)[i]! ∧ (atTo l y l.length)[i]! ≤ 1048576 := by
    intro i hi
    exact at_vp hv (Nat.le_refl _) (by rw [getElem!_pos _ i hi]; exact List.getElem_mem _)
  obtain ⟨i, hi, h | h⟩ := (pcs_mem _).1 hm
  · obtain ⟨rfl, _⟩ := pcA_mem h
    have := hat i hi
    unfold inR50
    dsimp only
    omega
  · obtain ⟨rfl, h2, _⟩ := pcB_mem h
    have := hat i hi
    have := hat (i + 1) h2
    unfold inR50
    dsimp only
    omega

set_option maxRecDepth 100000 in
set_option maxHeartbeats 8000000 in
theorem ref_middle (A : Option Addr) (c : Nat) (l : List Pt) (w : World) (hmax : l.length ≤ 1000000000000) (hR : RdR w A l) :
    Calls Try.prog 19 #[.slice A l.length c] w (RetV w (.tuple #[aggP (midP l), .bool (midR l).isSome])) := by
  have hb0 : Below w.heap.size w (w.alloc (.cells #[.int .i64 0, .int .i64 0] 32)) := bw1 _ _
  have hbp : BoxP (w.alloc (.cells #[.int .i64 0, .int .i64 0] 32)) w.heap.size (0, 0) := BoxP.new w (0, 0)
  have cC := Lib.hid (ref_check A c l _ hmax (hR.below hb0))
  rw [← chk_ref] at cC
  by_cases h0 : chkE l = 0
  rotate_left
  · have HR1 := Lib.hid (show midR l = none by unfold midR; rw [if_neg h0])
    have HP1 := Lib.hid (show midP l = (0, 0) by unfold midP; rw [HR1.out]; rfl)
    have hz : (chkE l != 0) = true := by simp [h0]
    rw [HP1.out, HR1.out]
    clear hR HR1 HP1 h0
    generalize chkE l = E at *
    unfold aggP
    dsimp only
    go_enter Try.func19, Try.ntmps19
    go_wp2_with fail
    refine cC.out.mono ?_
    rintro e w1 ⟨rfl, hb1⟩
    generalize (w.alloc (.cells #[.int .i64 0, .int .i64 0] 32)) = w0 at *
    have hbp1 := hbp.below hb1
    have hb01 := hb0.trans (hb1.mono hb0.size)
    have hfin := hbp1.set (0, 0)
    have HFB := Lib.hid (below_setP hb01 (m := w.heap.size) (q := (0, 0)) (Nat.le_refl _))
    obtain ⟨k1, k2, f1, f2, l1⟩ := hbp1.cel
    dsimp only at k1 k2
    clear hb0 hb01 hb1 hbp hbp1
    go_wp2_with fail
    have q1 := hfin.c0
    have q2 := hfin.c1
    refine bodyPost_ret (v := .tuple #[.agg #[.int .i64 0, .int .i64 0], .bool false]) (by simp only [setP] at q1 q2; simp [results, Try.results19, go_sem, q1, q2]) rfl ?_
    exact ⟨rfl, HFB.out⟩
  · have hpz := chkE_zero h0
    obtain ⟨hv, hn3, hn⟩ := polyE_zero hpz
    obtain ⟨x1, x2, x3, x4, x5, x6⟩ := bnd_vp hv (by omega)
    have HM := Lib.hid (show midR l = frst (okY l) (bnd l).y0 (bnd l).y1 (flo ((bnd l).y0 + (bnd l).y1) 2) ((bnd l).y1 - (bnd l).y0 + 3).toNat by
      unfold midR mdR
      rw [if_pos h0]
      exact (frst_more (.inr (by omega)) x6).symm)
    have HP1 := Lib.hid (show midP l = mdP l (midR l) from rfl)
    have HMP := Lib.hid fun y => (show mdP l (some y) = (longX (rowL l y), y) from rfl)
    have HMN := Lib.hid (show mdP l none = (0, 0) from rfl)
    have HB1 := Lib.hid fun y => best_row (l := l) (by omega) y
    have HOK := Lib.hid fun y => (show okY l y = decide ((longTo (rowL l y) (rowL l y).length).1 < (longTo (rowL l y) (rowL l y).length).2) from rfl)
    have HLX := Lib.hid fun y => (show longX (rowL l y) = flo ((longTo (rowL l y) (rowL l y).length).1 + (longTo (rowL l y) (rowL l y).length).2 - 1) 2 from rfl)
    have HIN := Lib.hid fun (y : Int) (h1 : -1048576 ≤ y) (h2 : y ≤ 1048576) => longTo_in (rowL_in hv h1 h2) _ (Nat.le_refl _)
    have cB := Lib.hid fun W (hb : Below w.heap.size w W) => ref_bounds A c l W (by omega) (hR.below hb)
    have cR := Lib.hid fun (y : Int) (h1 : -1048576 ≤ y) (h2 : y ≤ 1048576) (W : World) (hb : Below w.heap.size w W) => ref_row A c l y W hpz h1 h2 (hR.below hb)
    have cL := Lib.hid fun (y : Int) (A' : Option Addr) (c' : Nat) (W : World) (hr : RdR W A' (pcL l y)) => ref_run A' c' (pcL l y) W (Nat.le_trans (pcL_len l y hn) (by decide)) (pcL_in hv) hr
    have cF := Lib.hid fun a W h1 h2 => ref_floor a 2 W h1 h2 (by omega) (by omega) (by omega)
    have cY := Lib.hid fun (k : Nat) (W : World) (hk : k ≤ 10000000) => ref_rows (bnd l).y0 (bnd l).y1 k W x3 x6 x4 hk
    have hfl := flo_spec (a := (bnd l).y0 + (bnd l).y1) (b := 2) (by omega)
    rw [h0] at cC
    rw [HP1.out]
    clear hR hv h0 x1 x2 x5 hpz HP1
    generalize midR l = res at *
    generalize mdP l = mp at *
    generalize okY l = ok at *
    generalize bnd l = b at *
    obtain ⟨x0, y0, xx1, y1⟩ := b
    unfold aggO aggP at *
    dsimp only at *
    obtain ⟨m, hm⟩ : ∃ m, flo (y0 + y1) 2 = m := ⟨_, rfl⟩
    rw [hm] at HM hfl cY
    clear hm
    obtain ⟨ff1, ff2⟩ := hfl
    obtain ⟨D, hD⟩ : ∃ D : Nat, (y1 - y0 + 3).toNat = D := ⟨_, rfl⟩
    rw [hD] at HM
    have hDi : y1 - y0 + 3 = (D : Int) := by omega
    clear hD
    go_enter Try.func19, Try.ntmps19
    go_wp2_with fail
    refine cC.out.mono ?_
    rintro e w1 ⟨rfl, hb1⟩
    generalize (w.alloc (.cells #[.int .i64 0, .int .i64 0] 32)) = w0 at *
    have hbp1 := hbp.below hb1
    have hb01 := hb0.trans (hb1.mono hb0.size)
    clear hbp hb1
    go_wp2_with fail
    refine (cB.out _ hb01).mono ?_
    rintro e w2 ⟨rfl, hb2⟩
    have hbp2 := hbp1.below hb2
    have hb02 := hb01.trans (hb2.mono hb01.size)
    clear hbp1 hb2 hb01 hb0
    have hbs2 := hb02.size
    have hro : RowO (w2.alloc (.cells #[.int .i64 x0, .int .i64 y0, .int .i64 xx1, .int .i64 y1] 29)) w2.heap.size ⟨x0, y0, xx1, y1⟩ := heap_alloc_new w2 _
    have hbp3 := hbp2.alloc (.cells #[.int .i64 x0, .int .i64 y0, .int .i64 xx1, .int .i64 y1] 29)
    have hb03 := hb02.alloc hbs2 (.cells #[.int .i64 x0, .int .i64 y0, .int .i64 xx1, .int .i64 y1] 29)
    have HB := Lib.hid fun (W : World) (hW : Below (w2.alloc (.cells #[.int .i64 x0, .int .i64 y0, .int .i64 xx1, .int .i64 y1] 29)).heap.size (w2.alloc (.cells #[.int .i64 x0, .int .i64 y0, .int .i64 xx1, .int .i64 y1] 29)) W) =>
      (show RowO W w2.heap.size ⟨x0, y0, xx1, y1⟩ ∧ BoxP W w.heap.size (0, 0) from ⟨hro.below hW, hbp3.below hW⟩)
    clear hro hbp2 hbp3
    go_upto_block 0 with fail
    generalize (w2.alloc (.cells #[.int .i64 x0, .int .i64 y0, .int .i64 xx1, .int .i64 y1] 29)) = w3 at *
    generalize w2.heap.size = g at *
    have hgw : w.heap.size ≤ g := hbs2
    clear hb02 hbs2
    go_wp2_with fail
    go_loopw [5] (fun v wr => ∃ k : Nat, k ≤ D ∧ v = .int .i64 k ∧ Hid (frst ok y0 y1 m k = none) ∧ Below w3.heap.size w3 wr) (fun v _ => D - (intOf v).toNat)
    case atStart => exact ⟨0, by omega, rfl, Lib.hid rfl, Below.refl _ _⟩
    case round =>
      obtain ⟨k, hk, rfl, hno, hbw⟩ := hrel
      obtain ⟨hro, hbp⟩ := HB.out _ hbw
      obtain ⟨k1, k2, k3, k4⟩ := hro.cells
      dsimp only at k1 k2 k3 k4
      have hbz := hb03.trans (hbw.mono hb03.size)
      have hki : (k : Int) ≤ (D : Int) := by omega
      have hk0 : (0 : Int) ≤ (k : Int) := by omega
      by_cases hkD : k < D
      rotate_left
      · obtain rfl : k = D := by omega
        have hres : res = none := by rw [HM.out, hno.out]
        have hgt : ¬ ((k : Int) ≤ y1 - y0 + 2) := by omega
        obtain ⟨p1, p2, p3, p4, p5⟩ := hbp.cel
        dsimp only at p1 p2
        have hfin := hbp.set (0, 0)
        have HFB := Lib.hid (below_setP hbz (m := w.heap.size) (q := (0, 0)) (by omega))
        subst hres
        go_wp2_with fail
        have q1 := hfin.c0
        have q2 := hfin.c1
        refine bodyPost_ret (v := .tuple #[.agg #[.int .i64 0, .int .i64 0], .bool false]) (by simp only [setP] at q1 q2; simp [results, Try.results19, go_sem, q1, q2]) rfl ?_
        exact ⟨by rw [HMN.out] <;> rfl, HFB.out⟩
      · have hle : ((k : Int) ≤ y1 - y0 + 2) := by omega
        go_wp2_with fail
        refine (cY.out k _ (by omega)).mono ?_
        rintro e w5 ⟨rfl, hb5⟩
        have hbw5 := hbw.trans (hb5.mono hbw.size)
        have hbz5 := hbz.trans (hb5.mono hbz.size)
        clear hro hbp k1 k2 k3 k4 hbw hbz hb5
        obtain ⟨hro, hbp⟩ := HB.out _ hbw5
        obtain ⟨k1, k2, k3, k4⟩ := hro.cells
        dsimp only at k1 k2 k3 k4
        have HOUT := Lib.hid fun (h : ¬ (y0 ≤ ysq m k ∧ ysq m k ≤ y1)) => frst_out (ok := ok) h
        have HNO := Lib.hid fun (h : ok (ysq m k) = false) => frst_no (y0 := y0) (y1 := y1) h
        have HYES := Lib.hid fun h1 h2 (h : ok (ysq m k) = true) => frst_yes (y0 := y0) (y1 := y1) hno.out h1 h2 h
        generalize ysq m k = y at *
        by_cases ht1 : y < y0
        · have HNX := Lib.hid (show frst ok y0 y1 m (k + 1) = none by rw [HOUT.out (by omega)]; exact hno.out)
          go_wp2
          go_roundw
          case rel => exact ⟨k + 1, by omega, by go_num, HNX, hbw5⟩
          case measure => simp [intOf]; omega
        by_cases ht2 : y1 < y
        · have HNX := Lib.hid (show frst ok y0 y1 m (k + 1) = none by rw [HOUT.out (by omega)]; exact hno.out)
          go_wp2
          go_roundw
          case rel => exact ⟨k + 1, by omega, by go_num, HNX, hbw5⟩
          case measure => simp [intOf]; omega
        have hy1' : -1048576 ≤ y := by omega
        have hy2' : y ≤ 1048576 := by omega
        go_wp2_with fail
        refine (cR.out y hy1' hy2' _ hbz5).mono ?_
        rintro e w6 ⟨A6, c6, rfl, hR6, hb6⟩
        go_wp2_with fail
        refine (cL.out y A6 c6 w6 hR6).mono ?_
        rintro e w7 ⟨rfl, hb7⟩
        rw [HB1.out y]
        have hb67 := hb6.trans (hb7.mono hb6.size)
        have hbw7 := hbw5.trans (hb67.mono hbw5.size)
        have hbz7 := hbz5.trans (hb67.mono hbz5.size)
        clear k1 k2 k3 k4 hro hbp hR6 hb6 hb7 hb67 hbw5 hbz5
        have hin := HIN.out y hy1' hy2'
        have HX := Lib.hid (HLX.out y)
        have HZ := Lib.hid (HOK.out y)
        obtain ⟨⟨u, v⟩, hu⟩ : ∃ p, longTo (rowL l y) (rowL l y).length = p := ⟨_, rfl⟩
        rw [hu] at hin HX HZ ⊢
        clear hu
        unfold inR50 at hin
        dsimp only at hin HX HZ ⊢
        obtain ⟨i1, i2, i3, i4⟩ := hin
        obtain ⟨z, hz⟩ : ∃ z, decide (u < v) = z := ⟨_, rfl⟩
        rw [hz] at HZ ⊢
        clear hz
        have hbw8 := hbw7.alloc hbw7.size (.cells #[.int .i64 u, .int .i64 v] 52)
        have hbz8 := hbz7.alloc hbz7.size (.cells #[.int .i64 u, .int .i64 v] 52)
        cases z
        · have HNX := Lib.hid (show frst ok y0 y1 m (k + 1) = none by rw [HNO.out HZ.out]; exact hno.out)
          have HBW := Lib.hid hbw8
          clear hbw7 hbz7 hbw8 hbz8
          go_wp2
          go_roundw
          case rel => exact ⟨k + 1, by omega, by go_num, HNX, HBW.out⟩
          case measure => simp [intOf]; omega
        · have HNX := Lib.hid (show res = some y by
            rw [HM.out]
            exact frst_some (HYES.out (by omega) (by omega) HZ.out) _ (by omega))
          have HBW := Lib.hid hbw8
          have HBZ := Lib.hid hbz8
          clear hbw7 hbz7 hbw8 hbz8
          go_wp2_with fail
          refine (cF.out _ _ (by omega) (by omega)).mono ?_
          rintro e w9 ⟨rfl, hb9⟩
          have hbw9 := HBW.out.trans (hb9.mono HBW.out.size)
          have hbz9 := HBZ.out.trans (hb9.mono HBZ.out.size)
          rw [← HX.out]
          obtain ⟨X, hX⟩ : ∃ X, longX (rowL l y) = X := ⟨_, rfl⟩
          rw [hX]
          have HXX := Lib.hid hX
          clear hX hb9
          obtain ⟨hro, hbp⟩ := HB.out _ hbw9
          obtain ⟨p1, p2, p3, p4, p5⟩ := hbp.cel
          dsimp only at p1 p2
          have hfin := hbp.set (X, y)
          have HFB := Lib.hid (below_setP hbz9 (m := w.heap.size) (q := (X, y)) (by omega))
          clear hro hbp hbw9 hbz9
          go_wp2_with fail
          have q1 := hfin.c0
          have q2 := hfin.c1
          refine bodyPost_ret (v := .tuple #[.agg #[.int .i64 X, .int .i64 y], .bool true]) (by simp only [setP] at q1 q2; simp [results, Try.results19, go_sem, q1, q2]) rfl ?_
          exact ⟨by rw [HNX.out, HMP.out, HXX.out]; rfl, HFB.out⟩
end Go.Proofs
