/- RingInside, walked. -/
import Derived.Test.YtafaojmkbbhjmaaL1
import Derived.Test.YtafaojmkbbhjmaaP6
set_option linter.unusedVariables false
set_option linter.unusedSimpArgs false
namespace Go.Proofs
open Go.RowKit Go.Proofs.Mp

/-- a box of four cells, later -/
theorem box_four (w W : World) (v0 v1 v2 v3 : Value) (t : TypeId) (hb : Below (w.alloc (.cells #[v0, v1, v2, v3] t)).heap.size (w.alloc (.cells #[v0, v1, v2, v3] t)) W) :
    W.cell? ⟨w.heap.size, 0, none⟩ = some v0 ∧ W.cell? ⟨w.heap.size, 1, none⟩ = some v1 ∧ W.cell? ⟨w.heap.size, 2, none⟩ = some v2 ∧ W.cell? ⟨w.heap.size, 3, none⟩ = some v3 := by
  have h := heap_alloc_new w (.cells #[v0, v1, v2, v3] t)
  refine ⟨(hb.cell (p := ⟨w.heap.size, 0, none⟩) (by simp)).trans ?_, (hb.cell (p := ⟨w.heap.size, 1, none⟩) (by simp)).trans ?_, (hb.cell (p := ⟨w.heap.size, 2, none⟩) (by simp)).trans ?_, (hb.cell (p := ⟨w.heap.size, 3, none⟩) (by simp)).trans ?_⟩ <;> (rw [cell_of_row _ _ _ _ _ _ h]; rfl)

set_option maxRecDepth 100000 in
set_option maxHeartbeats 4000000 in
theorem law_inside (A : Option Addr) (c : Nat) (l : List Pt) (w : World) (hmax : l.length ≤ 9223372036854775807) (hR : RdR w A l) : Calls Try.prog 6 #[.slice A l.length c] w (RetV w (.bool true)) := by
  have cA := Lib.hid law_awake
  have cL := Lib.hid (law_low A c l w hmax hR)
  by_cases hlow : lowB l = true
  rotate_left
  · rw [Bool.not_eq_true] at hlow
    rw [hlow] at cL
    have H := Lib.hid hR
    clear hlow hR
    go_enter Try.func6, Try.ntmps6
    go_wp2_with fail
    refine cL.out.mono ?_
    rintro e w1 ⟨rfl, hb1⟩
    go_wp2_with fail
    refine (cA.out _).mono ?_
    rintro e w2 ⟨rfl, hb2⟩
    go_wp2
    go_ret
    exact RetV.bool rfl (hb1.trans (hb2.mono hb1.size))
  rw [hlow] at cL
  have hlen : l.length ≤ 24 := by
    unfold lowB at hlow
    rw [decide_eq_true_eq] at hlow
    exact hlow.1
  have cC := Lib.hid fun W (hb : Below w.heap.size w W) => ring_check A c l W (by omega) (hR.below hb)
  have HMI := Lib.hid fun (h : chkE l = 0) (hm : (midR l).isSome = true) => mid_in h hm
  have HMN := Lib.hid fun (h : chkE l = 0) (hm : (midR l).isSome = false) (x y : Int) (h1 : (bnd l).x0 ≤ x) (h2 : x ≤ (bnd l).x1) (h3 : (bnd l).y0 ≤ y) (h4 : y ≤ (bnd l).y1) => mid_none h hm h1 h2 h3 h4
  have HV := Lib.hid fun h : chkE l = 0 => bnd_vp (polyE_zero (chkE_zero h)).1 (by have := (polyE_zero (chkE_zero h)).2.1; omega)
  have cM := Lib.hid fun W (hb : Below w.heap.size w W) => ring_middle A c l W (by omega) (hR.below hb)
  have cI := Lib.hid fun (x y : Int) W (hb : Below w.heap.size w W) => ring_in A c l (x, y) W (by omega) (hR.below hb)
  have cB := Lib.hid fun W (hb : Below w.heap.size w W) => ring_bounds A c l W (by omega) (hR.below hb)
  clear hR hlow hlen
  by_cases h0 : chkE l = 0
  rotate_left
  · have hz : (chkE l != 0) = true := by simp [h0]
    clear HMI HMN HV cM cI cB
    generalize chkE l = z at *
    clear h0
    go_enter Try.func6, Try.ntmps6
    go_wp2_with fail
    refine cL.out.mono ?_
    rintro e w1 ⟨rfl, hb1⟩
    go_wp2_with fail
    refine (cC.out _ hb1).mono ?_
    rintro e w2 ⟨rfl, hb2⟩
    replace hb1 := hb1.trans (hb2.mono hb1.size)
    clear hb2
    go_wp2_with fail
    refine (cA.out _).mono ?_
    rintro e w3 ⟨rfl, hb2⟩
    go_wp2
    go_ret
    exact RetV.bool rfl (hb1.trans (hb2.mono hb1.size))
  rw [h0] at cC
  have hv := HV.out h0
  have hI : (midR l).isSome = true → inN l (midP l) = 1 := fun h => HMI.out h0 h
  have hN : (midR l).isSome = false → ∀ x y : Int, (bnd l).x0 ≤ x → x ≤ (bnd l).x1 → (bnd l).y0 ≤ y → y ≤ (bnd l).y1 → ¬ inN l (x, y) = 1 := fun h x y h1 h2 h3 h4 => HMN.out h0 h x y h1 h2 h3 h4
  clear HMI HMN HV h0
  obtain ⟨⟨p1, p2⟩, hmp⟩ : ∃ p, midP l = p := ⟨_, rfl⟩
  rw [hmp] at hI cM
  clear hmp
  generalize (midR l).isSome = z at *
  have hcI : Hid (z = true → ∀ W, Below w.heap.size w W → Calls Try.prog 20 #[.slice A l.length c, aggP (p1, p2)] W (RetV W (.int .i64 1))) := Lib.hid fun h W hb => by
    have := cI.out p1 p2 W hb
    rw [hI h] at this
    exact this
  clear hI
  have HIN := Lib.hid hN
  clear hN
  generalize bnd l = b at *
  obtain ⟨x0, y0, x1, y1⟩ := b
  unfold aggP aggO at *
  dsimp only at *
  cases z
  · -- no middle: all points of the box
    clear hcI
    go_enter Try.func6, Try.ntmps6
    go_wp2_with fail
    refine cL.out.mono ?_
    rintro e w1 ⟨rfl, hb1⟩
    go_wp2_with fail
    refine (cC.out _ hb1).mono ?_
    rintro e w2 ⟨rfl, hb2⟩
    replace hb1 := hb1.trans (hb2.mono hb1.size)
    clear hb2 cL cC
    go_wp2_with fail
    refine (cM.out _ hb1).mono ?_
    rintro e w3 ⟨rfl, hb2⟩
    replace hb1 := hb1.trans (hb2.mono hb1.size)
    clear hb2 cM
    have hb3 := hb1.trans ((bw1 w3 (.cells #[.int .i64 p1, .int .i64 p2] 32)).mono hb1.size)
    clear hb1
    have HB3 := Lib.hid hb3
    clear hb3
    go_wp2_with fail
    refine (cB.out _ HB3.out).mono ?_
    rintro e w4 ⟨rfl, hb4⟩
    have hb5 := HB3.out.trans (hb4.mono HB3.out.size)
    clear hb4 HB3 cB
    have HF := Lib.hid fun W hb => box_four w4 W (.int .i64 x0) (.int .i64 y0) (.int .i64 x1) (.int .i64 y1) 29 hb
    have HB4 := Lib.hid (hb5.trans ((bw1 w4 (.cells #[.int .i64 x0, .int .i64 y0, .int .i64 x1, .int .i64 y1] 29)).mono hb5.size))
    clear hb5
    go_upto_region 7 with fail
    generalize (w4.alloc (.cells #[.int .i64 x0, .int .i64 y0, .int .i64 x1, .int .i64 y1] 29)) = w5 at *
    generalize w4.heap.size = n4 at *
    have wx : IntKind.i64.wrap (x1 - x0) = x1 - x0 := IntWalk.i64_in _ (by omega)
    have wy : IntKind.i64.wrap (y1 - y0) = y1 - y0 := IntWalk.i64_in _ (by omega)
    obtain ⟨k1, k2, k3, k4⟩ := HF.out _ (Below.refl _ _)
    have HVV := Lib.hid hv
    clear hv
    by_cases g1 : 30 < x1 - x0
    · go_wp2_with fail
      refine (cA.out _).mono ?_
      rintro e w6 ⟨rfl, hb6⟩
      go_wp2
      go_ret
      exact RetV.bool rfl (HB4.out.trans (hb6.mono HB4.out.size))
    by_cases g2 : 30 < y1 - y0
    · go_wp2_with fail
      refine (cA.out _).mono ?_
      rintro e w6 ⟨rfl, hb6⟩
      go_wp2
      go_ret
      exact RetV.bool rfl (HB4.out.trans (hb6.mono HB4.out.size))
    go_wp2_with fail
    clear g1 g2 wx wy
    obtain ⟨q1, q2, q3, q4, q5, q6⟩ := HVV.out
    go_loopw [6] (fun v wr => ∃ x : Int, x0 ≤ x ∧ x ≤ x1 + 1 ∧ v = .int .i64 x ∧ Below w5.heap.size w5 wr) (fun v _ => (x1 + 1 - intOf v).toNat)
    case atStart => exact ⟨x0, by omega, by omega, rfl, Below.refl _ _⟩
    case round =>
      obtain ⟨x, hx0, hx1, rfl, hbw⟩ := hrel
      clear k1 k2 k3 k4
      obtain ⟨k1, k2, k3, k4⟩ := HF.out _ hbw
      have wx : IntKind.i64.wrap (x + 1) = x + 1 := IntWalk.i64_in _ (by omega)
      by_cases hlt : x ≤ x1
      rotate_left
      · go_wp2_with fail
        refine (cA.out _).mono ?_
        rintro e w6 ⟨rfl, hb6⟩
        go_wp2
        go_ret
        exact RetV.bool rfl (HB4.out.trans ((hbw.trans (hb6.mono hbw.size)).mono HB4.out.size))
      generalize wr = w6 at *
      go_wp2_with fail
      go_loopw [7] (fun v wr => ∃ y : Int, y0 ≤ y ∧ y ≤ y1 + 1 ∧ v = .int .i64 y ∧ Below w6.heap.size w6 wr) (fun v _ => (y1 + 1 - intOf v).toNat)
      case atStart => exact ⟨y0, by omega, by omega, rfl, Below.refl _ _⟩
      case round =>
        obtain ⟨y, hy0, hy1, rfl, hby⟩ := hrel
        clear k1 k2 k3 k4
        have hbz := hbw.trans (hby.mono hbw.size)
        obtain ⟨k1, k2, k3, k4⟩ := HF.out _ hbz
        have wy : IntKind.i64.wrap (y + 1) = y + 1 := IntWalk.i64_in _ (by omega)
        by_cases hly : y ≤ y1
        rotate_left
        · go_wp2
          go_roundw
          case rel => exact ⟨x + 1, by omega, by omega, rfl, hbz⟩
          case measure => simp [intOf]; omega
        · have hne := HIN.out (by simp) x y hx0 hlt hy0 hly
          have cIx := Lib.hid (cI.out x y _ (HB4.out.trans (hbz.mono HB4.out.size)))
          generalize inN l (x, y) = n at *
          go_wp2_with fail
          refine cIx.out.mono ?_
          rintro e w7 ⟨rfl, hb7⟩
          go_wp2
          go_roundw
          case rel => exact ⟨y + 1, by omega, by omega, rfl, hby.trans (hb7.mono hby.size)⟩
          case measure => simp [intOf]; omega
  · -- the middle
    clear HIN cB cI
    go_enter Try.func6, Try.ntmps6
    go_wp2_with fail
    refine cL.out.mono ?_
    rintro e w1 ⟨rfl, hb1⟩
    go_wp2_with fail
    refine (cC.out _ hb1).mono ?_
    rintro e w2 ⟨rfl, hb2⟩
    replace hb1 := hb1.trans (hb2.mono hb1.size)
    clear hb2 cL cC
    go_wp2_with fail
    refine (cM.out _ hb1).mono ?_
    rintro e w3 ⟨rfl, hb2⟩
    replace hb1 := hb1.trans (hb2.mono hb1.size)
    clear hb2 cM
    have HX := Lib.hid fun (W : World) (hW : Below (w3.alloc (.cells #[.int .i64 p1, .int .i64 p2] 32)).heap.size (w3.alloc (.cells #[.int .i64 p1, .int .i64 p2] 32)) W) => box_at w3 W (.int .i64 p1) (.int .i64 p2) 32 (hW.mono (by simp))
    have hb3 := hb1.trans ((bw1 w3 (.cells #[.int .i64 p1, .int .i64 p2] 32)).mono hb1.size)
    clear hb1
    go_upto_region 5 with fail
    generalize (w3.alloc (.cells #[.int .i64 p1, .int .i64 p2] 32)) = w4 at *
    go_wp2_with fail
    refine (cA.out _).mono ?_
    rintro e w5 ⟨rfl, hb5⟩
    replace hb3 := hb3.trans (hb5.mono hb3.size)
    obtain ⟨k1, k2⟩ := HX.out _ hb5
    clear hb5
    go_wp2_with fail
    refine (hcI.out (by simp) _ hb3).mono ?_
    rintro e w6 ⟨rfl, hb6⟩
    go_wp2
    go_ret
    exact RetV.bool rfl (hb3.trans (hb6.mono hb3.size))
end Go.Proofs
