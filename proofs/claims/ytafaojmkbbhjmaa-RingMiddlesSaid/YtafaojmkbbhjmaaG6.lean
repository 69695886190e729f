/- Touch: have two segments common points? (the reference) -/
import Derived.Test.YtafaojmkbbhjmaaG5
set_option linter.unusedVariables false
set_option linter.unusedSimpArgs false
namespace Go.Proofs
open Go.RowKit Go.Proofs.Mp
set_option maxRecDepth 100000 in
set_option maxHeartbeats 4000000 in
theorem ref_touch (a b c d : Pt) (w : World) (ha : Nr a) (hb : Nr b) (hc : Nr c) (hd : Nr d) : Calls Try.prog 46 #[aggP a, aggP b, aggP c, aggP d] w (RetV w (.bool (touchB a b c d))) := by
  have O1 := Lib.hid fun W => ref_on a b c W ha hb hc
  have O2 := Lib.hid fun W => ref_on a b d W ha hb hd
  have O3 := Lib.hid fun W => ref_on c d a W hc hd ha
  have O4 := Lib.hid fun W => ref_on c d b W hc hd hb
  have Cabc := Lib.hid fun W => ref_side a b c W ha hb hc
  have Cabd := Lib.hid fun W => ref_side a b d W ha hb hd
  have Ccda := Lib.hid fun W => ref_side c d a W hc hd ha
  have Ccdb := Lib.hid fun W => ref_side c d b W hc hd hb
  have b1 := sd_in a b c
  have b2 := sd_in a b d
  have b3 := sd_in c d a
  have b4 := sd_in c d b
  have w12 := Lib.hid (mul1 b1 b2)
  have w34 := Lib.hid (mul1 b3 b4)
  have HR := Lib.hid (show touchB a b c d = (onB a b c || onB a b d || onB c d a || onB c d b || (decide (sd a b c * sd a b d < 0) && decide (sd c d a * sd c d b < 0))) from rfl)
  generalize touchB a b c d = res at *
  generalize onB a b c = o1 at *
  generalize onB a b d = o2 at *
  generalize onB c d a = o3 at *
  generalize onB c d b = o4 at *
  generalize sd a b c = s1 at *
  generalize sd a b d = s2 at *
  generalize sd c d a = s3 at *
  generalize sd c d b = s4 at *
  clear ha hb hc hd b1 b2 b3 b4
  obtain ⟨a1, a2⟩ := a
  obtain ⟨b1, b2⟩ := b
  obtain ⟨c1, c2⟩ := c
  obtain ⟨d1, d2⟩ := d
  unfold aggP at *
  dsimp only at *
  go_enter Try.func46, Try.ntmps46
  go_wp2_with fail
  refine (O1.out _).mono ?_
  rintro e w1 ⟨rfl, hb1⟩
  obtain ⟨k1, k2, k3, k4, k5, k6, k7, k8, hw1⟩ := box4 hb1
  obtain ⟨w0', hw0'⟩ : ∃ w0', w0' = ((((w.alloc (.cells #[.int .i64 a1, .int .i64 a2] 32)).alloc (.cells #[.int .i64 b1, .int .i64 b2] 32)).alloc (.cells #[.int .i64 c1, .int .i64 c2] 32)).alloc (.cells #[.int .i64 d1, .int .i64 d2] 32)) := ⟨_, rfl⟩
  rw [← hw0'] at hb1
  have HW0 := Lib.hid hw0'
  clear hw0'

  cases o1
  rotate_left
  · go_wp2
    go_ret
    exact RetV.bool (by rw [HR.out]; simp) hw1
  go_wp2_with fail
  refine (O2.out _).mono ?_
  rintro e w2 ⟨rfl, hx⟩
  clear k1 k2 k3 k4 k5 k6 k7 k8
  have hb2 := hb1.trans (hx.mono hb1.size)
  have hw2 := hw1.trans (hx.mono hw1.size)
  clear hx
  obtain ⟨k1, k2, k3, k4, k5, k6, k7, k8⟩ := box4' w0' HW0.out hb2
  clear hb1 hw1
  cases o2
  rotate_left
  · go_wp2
    go_ret
    exact RetV.bool (by rw [HR.out]; simp) hw2
  go_wp2_with fail
  refine (O3.out _).mono ?_
  rintro e w3 ⟨rfl, hx⟩
  clear k1 k2 k3 k4 k5 k6 k7 k8
  have hb3 := hb2.trans (hx.mono hb2.size)
  have hw3 := hw2.trans (hx.mono hw2.size)
  clear hx
  obtain ⟨k1, k2, k3, k4, k5, k6, k7, k8⟩ := box4' w0' HW0.out hb3
  clear hb2 hw2
  cases o3
  rotate_left
  · go_wp2
    go_ret
    exact RetV.bool (by rw [HR.out]; simp) hw3
  go_wp2_with fail
  refine (O4.out _).mono ?_
  rintro e w4 ⟨rfl, hx⟩
  clear k1 k2 k3 k4 k5 k6 k7 k8
  have hb4 := hb3.trans (hx.mono hb3.size)
  have hw4 := hw3.trans (hx.mono hw3.size)
  clear hx
  obtain ⟨k1, k2, k3, k4, k5, k6, k7, k8⟩ := box4' w0' HW0.out hb4
  clear hb3 hw3
  cases o4
  rotate_left
  · go_wp2
    go_ret
    exact RetV.bool (by rw [HR.out]; simp) hw4
  go_upto_region 3 with fail
  by_cases e5 : s1 * s2 < 0
  · have d5 : decide (s1 * s2 < 0) = true := decide_eq_true e5
    rw [d5] at HR
    clear e5
    have w12' := w12.out
    have w34' := w34.out
    clear w12 w34
    refine wp_region_held_drew (S := fun W : World => Below w4.drew.heap.size w4.drew W) (by kernel_rfl) (Below.refl _ _) (fun hHeld => ?_)
    clear hHeld
    have hd0 : Below w.heap.size w w4.drew := hw4.drew
    have HC : Hid (∀ W, Below w4.drew.heap.size w4.drew W → W.cell? ⟨w.heap.size, 0, none⟩ = some (.int .i64 a1) ∧ W.cell? ⟨w.heap.size, 1, none⟩ = some (.int .i64 a2) ∧ W.cell? ⟨w.heap.size + 1, 0, none⟩ = some (.int .i64 b1) ∧ W.cell? ⟨w.heap.size + 1, 1, none⟩ = some (.int .i64 b2) ∧ W.cell? ⟨w.heap.size + 1 + 1, 0, none⟩ = some (.int .i64 c1) ∧ W.cell? ⟨w.heap.size + 1 + 1, 1, none⟩ = some (.int .i64 c2) ∧ W.cell? ⟨w.heap.size + 1 + 1 + 1, 0, none⟩ = some (.int .i64 d1) ∧ W.cell? ⟨w.heap.size + 1 + 1 + 1, 1, none⟩ = some (.int .i64 d2)) := Lib.hid (fun W hb => box4' w0' HW0.out (hb4.drew.trans (hb.mono hb4.drew.size)))
    clear hb4 hw4 k1 k2 k3 k4 k5 k6 k7 k8
    generalize w4.drew = w0 at *
    have hS0 : (fun W : World => Below w0.heap.size w0 W) w0 := Below.refl _ _
    obtain ⟨z, hz⟩ : ∃ z, decide (s3 * s4 < 0) = z := ⟨_, rfl⟩
    rw [hz] at HR
    cases z
    · skip
      refine wpAnyH_take (i := 0) (oi := ⟨some 31, _, _, _, _, _⟩) (v := ?vrax1) rfl (by kernel_rfl) (by kernel_rfl) (by kernel_rfl) (fun _ _ _ h => h) (Or.inl ⟨by kernel_rfl, ?hyrax1⟩) (by assumption) ?restrax1
      case hyrax1 => (intro W hSw; obtain ⟨k1, k2, k3, k4, k5, k6, k7, k8⟩ := HC.out W hSw; clear hSw; (try dsimp only at hSw); go_simp; try with_reducible rfl)
      case' restrax1 => try simp only [Act.put, List.setIfInBounds_toArray, List.set_cons_zero, List.set_cons_succ]
      refine wpAnyH_take (i := 1) (oi := ⟨some 32, _, _, _, _, _⟩) (v := ?vrax2) rfl (by kernel_rfl) (by kernel_rfl) (by kernel_rfl) (fun _ _ _ h => h) (Or.inl ⟨by kernel_rfl, ?hyrax2⟩) (by assumption) ?restrax2
      case hyrax2 => (intro W hSw; obtain ⟨k1, k2, k3, k4, k5, k6, k7, k8⟩ := HC.out W hSw; clear hSw; (try dsimp only at hSw); go_simp; try with_reducible rfl)
      case' restrax2 => try simp only [Act.put, List.setIfInBounds_toArray, List.set_cons_zero, List.set_cons_succ]
      refine wpAnyH_take (i := 2) (oi := ⟨some 33, _, _, _, _, _⟩) (v := ?vrax3) rfl (by kernel_rfl) (by kernel_rfl) (by kernel_rfl) (fun _ _ _ h => h) (Or.inl ⟨by kernel_rfl, ?hyrax3⟩) (by assumption) ?restrax3
      case hyrax3 => (intro W hSw; obtain ⟨k1, k2, k3, k4, k5, k6, k7, k8⟩ := HC.out W hSw; clear hSw; (try dsimp only at hSw); go_simp; try with_reducible rfl)
      case' restrax3 => try simp only [Act.put, List.setIfInBounds_toArray, List.set_cons_zero, List.set_cons_succ]
      refine wpAnyH_take (i := 4) (oi := ⟨some 35, _, _, _, _, _⟩) (v := ?vrax4) rfl (by kernel_rfl) (by kernel_rfl) (by kernel_rfl) (fun _ _ _ h => h) (Or.inl ⟨by kernel_rfl, ?hyrax4⟩) (by assumption) ?restrax4
      case hyrax4 => (intro W hSw; obtain ⟨k1, k2, k3, k4, k5, k6, k7, k8⟩ := HC.out W hSw; clear hSw; (try dsimp only at hSw); go_simp; try with_reducible rfl)
      case' restrax4 => try simp only [Act.put, List.setIfInBounds_toArray, List.set_cons_zero, List.set_cons_succ]
      refine wpAnyH_take (i := 5) (oi := ⟨some 36, _, _, _, _, _⟩) (v := ?vrax5) rfl (by kernel_rfl) (by kernel_rfl) (by kernel_rfl) (fun _ _ _ h => h) (Or.inl ⟨by kernel_rfl, ?hyrax5⟩) (by assumption) ?restrax5
      case hyrax5 => (intro W hSw; obtain ⟨k1, k2, k3, k4, k5, k6, k7, k8⟩ := HC.out W hSw; clear hSw; (try dsimp only at hSw); go_simp; try with_reducible rfl)
      case' restrax5 => try simp only [Act.put, List.setIfInBounds_toArray, List.set_cons_zero, List.set_cons_succ]
      refine wpAnyH_take (i := 6) (oi := ⟨some 37, _, _, _, _, _⟩) (v := ?vrax6) rfl (by kernel_rfl) (by kernel_rfl) (by kernel_rfl) (fun _ _ _ h => h) (Or.inl ⟨by kernel_rfl, ?hyrax6⟩) (by assumption) ?restrax6
      case hyrax6 => (intro W hSw; obtain ⟨k1, k2, k3, k4, k5, k6, k7, k8⟩ := HC.out W hSw; clear hSw; (try dsimp only at hSw); go_simp; try with_reducible rfl)
      case' restrax6 => try simp only [Act.put, List.setIfInBounds_toArray, List.set_cons_zero, List.set_cons_succ]
      refine wpAnyH_ready (rs := [3]) (by kernel_rfl) (by simp) ?_
      refine AllReadyH.cons (o := ⟨some 34, _, _, _, _, _⟩) rfl (fun K hK => ?_) AllReadyH.nil
      go_simp
      go_at_call 44
      refine (Cabc.out _).mono ?_
      rintro e Wrax1 ⟨rfl, hbWrax1⟩
      have hSWrax1 := hS0.trans (hbWrax1.mono hS0.size)
      try clear hS0
      clear hbWrax1
      go_wp2_with fail
      refine hK.out _ _ hSWrax1 (fun hHeld => ?_)
      clear hK hHeld K
      try simp only [Act.put, List.setIfInBounds_toArray, List.set_cons_zero, List.set_cons_succ]
      refine wpAnyH_ready (rs := [7]) (by kernel_rfl) (by simp) ?_
      refine AllReadyH.cons (o := ⟨some 38, _, _, _, _, _⟩) rfl (fun K hK => ?_) AllReadyH.nil
      go_simp
      go_at_call 44
      refine (Cabd.out _).mono ?_
      rintro e Wrax2 ⟨rfl, hbWrax2⟩
      have hSWrax2 := hSWrax1.trans (hbWrax2.mono hSWrax1.size)
      try clear hSWrax1
      clear hbWrax2
      go_wp2_with fail
      refine hK.out _ _ hSWrax2 (fun hHeld => ?_)
      clear hK hHeld K
      try simp only [Act.put, List.setIfInBounds_toArray, List.set_cons_zero, List.set_cons_succ]
      refine wpAnyH_take (i := 8) (oi := ⟨some 39, _, _, _, _, _⟩) (v := ?vrax7) rfl (by kernel_rfl) (by kernel_rfl) (by kernel_rfl) (fun _ _ _ h => h) (Or.inl ⟨by kernel_rfl, ?hyrax7⟩) (by assumption) ?restrax7
      case hyrax7 => (intro W hSw; (try dsimp only at hSw); go_simp; try with_reducible rfl)
      case' restrax7 => try simp only [Act.put, List.setIfInBounds_toArray, List.set_cons_zero, List.set_cons_succ]
      refine wpAnyH_take (i := 9) (oi := ⟨some 40, _, _, _, _, _⟩) (v := ?vrax8) rfl (by kernel_rfl) (by kernel_rfl) (by kernel_rfl) (fun _ _ _ h => h) (Or.inl ⟨by kernel_rfl, ?hyrax8⟩) (by assumption) ?restrax8
      case hyrax8 => (intro W hSw; (try dsimp only at hSw); go_simp; try with_reducible rfl)
      case' restrax8 => try simp only [Act.put, List.setIfInBounds_toArray, List.set_cons_zero, List.set_cons_succ]
      refine wpAnyH_take (i := 10) (oi := ⟨some 41, _, _, _, _, _⟩) (v := ?vrax9) rfl (by kernel_rfl) (by kernel_rfl) (by kernel_rfl) (fun _ _ _ h => h) (Or.inl ⟨by kernel_rfl, ?hyrax9⟩) (by assumption) ?restrax9
      case hyrax9 => (intro W hSw; (try dsimp only at hSw); go_simp; try with_reducible rfl)
      case' restrax9 => try simp only [Act.put, List.setIfInBounds_toArray, List.set_cons_zero, List.set_cons_succ]
      refine wpAnyH_take (i := 11) (oi := ⟨some 42, _, _, _, _, _⟩) (v := ?vrax10) rfl (by kernel_rfl) (by kernel_rfl) (by kernel_rfl) (fun _ _ _ h => h) (Or.inl ⟨by kernel_rfl, ?hyrax10⟩) (by assumption) ?restrax10
      case hyrax10 => (intro W hSw; obtain ⟨k1, k2, k3, k4, k5, k6, k7, k8⟩ := HC.out W hSw; clear hSw; (try dsimp only at hSw); go_simp; try with_reducible rfl)
      case' restrax10 => try simp only [Act.put, List.setIfInBounds_toArray, List.set_cons_zero, List.set_cons_succ]
      refine wpAnyH_take (i := 12) (oi := ⟨some 43, _, _, _, _, _⟩) (v := ?vrax11) rfl (by kernel_rfl) (by kernel_rfl) (by kernel_rfl) (fun _ _ _ h => h) (Or.inl ⟨by kernel_rfl, ?hyrax11⟩) (by assumption) ?restrax11
      case hyrax11 => (intro W hSw; obtain ⟨k1, k2, k3, k4, k5, k6, k7, k8⟩ := HC.out W hSw; clear hSw; (try dsimp only at hSw); go_simp; try with_reducible rfl)
      case' restrax11 => try simp only [Act.put, List.setIfInBounds_toArray, List.set_cons_zero, List.set_cons_succ]
      refine wpAnyH_take (i := 13) (oi := ⟨some 44, _, _, _, _, _⟩) (v := ?vrax12) rfl (by kernel_rfl) (by kernel_rfl) (by kernel_rfl) (fun _ _ _ h => h) (Or.inl ⟨by kernel_rfl, ?hyrax12⟩) (by assumption) ?restrax12
      case hyrax12 => (intro W hSw; obtain ⟨k1, k2, k3, k4, k5, k6, k7, k8⟩ := HC.out W hSw; clear hSw; (try dsimp only at hSw); go_simp; try with_reducible rfl)
      case' restrax12 => try simp only [Act.put, List.setIfInBounds_toArray, List.set_cons_zero, List.set_cons_succ]
      refine wpAnyH_take (i := 15) (oi := ⟨some 46, _, _, _, _, _⟩) (v := ?vrax13) rfl (by kernel_rfl) (by kernel_rfl) (by kernel_rfl) (fun _ _ _ h => h) (Or.inl ⟨by kernel_rfl, ?hyrax13⟩) (by assumption) ?restrax13
      case hyrax13 => (intro W hSw; obtain ⟨k1, k2, k3, k4, k5, k6, k7, k8⟩ := HC.out W hSw; clear hSw; (try dsimp only at hSw); go_simp; try with_reducible rfl)
      case' restrax13 => try simp only [Act.put, List.setIfInBounds_toArray, List.set_cons_zero, List.set_cons_succ]
      refine wpAnyH_take (i := 16) (oi := ⟨some 47, _, _, _, _, _⟩) (v := ?vrax14) rfl (by kernel_rfl) (by kernel_rfl) (by kernel_rfl) (fun _ _ _ h => h) (Or.inl ⟨by kernel_rfl, ?hyrax14⟩) (by assumption) ?restrax14
      case hyrax14 => (intro W hSw; obtain ⟨k1, k2, k3, k4, k5, k6, k7, k8⟩ := HC.out W hSw; clear hSw; (try dsimp only at hSw); go_simp; try with_reducible rfl)
      case' restrax14 => try simp only [Act.put, List.setIfInBounds_toArray, List.set_cons_zero, List.set_cons_succ]
      refine wpAnyH_take (i := 17) (oi := ⟨some 48, _, _, _, _, _⟩) (v := ?vrax15) rfl (by kernel_rfl) (by kernel_rfl) (by kernel_rfl) (fun _ _ _ h => h) (Or.inl ⟨by kernel_rfl, ?hyrax15⟩) (by assumption) ?restrax15
      case hyrax15 => (intro W hSw; obtain ⟨k1, k2, k3, k4, k5, k6, k7, k8⟩ := HC.out W hSw; clear hSw; (try dsimp only at hSw); go_simp; try with_reducible rfl)
      case' restrax15 => try simp only [Act.put, List.setIfInBounds_toArray, List.set_cons_zero, List.set_cons_succ]
      refine wpAnyH_ready (rs := [14]) (by kernel_rfl) (by simp) ?_
      refine AllReadyH.cons (o := ⟨some 45, _, _, _, _, _⟩) rfl (fun K hK => ?_) AllReadyH.nil
      go_simp
      go_at_call 44
      refine (Ccda.out _).mono ?_
      rintro e Wrax3 ⟨rfl, hbWrax3⟩
      have hSWrax3 := hSWrax2.trans (hbWrax3.mono hSWrax2.size)
      try clear hSWrax2
      clear hbWrax3
      go_wp2_with fail
      refine hK.out _ _ hSWrax3 (fun hHeld => ?_)
      clear hK hHeld K
      try simp only [Act.put, List.setIfInBounds_toArray, List.set_cons_zero, List.set_cons_succ]
      refine wpAnyH_ready (rs := [18]) (by kernel_rfl) (by simp) ?_
      refine AllReadyH.cons (o := ⟨some 49, _, _, _, _, _⟩) rfl (fun K hK => ?_) AllReadyH.nil
      go_simp
      go_at_call 44
      refine (Ccdb.out _).mono ?_
      rintro e Wrax4 ⟨rfl, hbWrax4⟩
      have hSWrax4 := hSWrax3.trans (hbWrax4.mono hSWrax3.size)
      try clear hSWrax3
      clear hbWrax4
      go_wp2_with fail
      refine hK.out _ _ hSWrax4 (fun hHeld => ?_)
      clear hK hHeld K
      try simp only [Act.put, List.setIfInBounds_toArray, List.set_cons_zero, List.set_cons_succ]
      refine wpAnyH_take (i := 19) (oi := ⟨some 50, _, _, _, _, _⟩) (v := ?vrax16) rfl (by kernel_rfl) (by kernel_rfl) (by kernel_rfl) (fun _ _ _ h => h) (Or.inl ⟨by kernel_rfl, ?hyrax16⟩) (by assumption) ?restrax16
      case hyrax16 => (intro W hSw; (try dsimp only at hSw); go_simp; try with_reducible rfl)
      case' restrax16 => try simp only [Act.put, List.setIfInBounds_toArray, List.set_cons_zero, List.set_cons_succ]
      refine wpAnyH_take (i := 20) (oi := ⟨some 51, _, _, _, _, _⟩) (v := ?vrax17) rfl (by kernel_rfl) (by kernel_rfl) (by kernel_rfl) (fun _ _ _ h => h) (Or.inl ⟨by kernel_rfl, ?hyrax17⟩) (by assumption) ?restrax17
      case hyrax17 => (intro W hSw; (try dsimp only at hSw); go_simp; try with_reducible rfl)
      case' restrax17 => try simp only [Act.put, List.setIfInBounds_toArray, List.set_cons_zero, List.set_cons_succ]
      refine wpAnyH_take (i := 21) (oi := ⟨some 52, _, _, _, _, _⟩) (v := ?vrax18) rfl (by kernel_rfl) (by kernel_rfl) (by kernel_rfl) (fun _ _ _ h => h) (Or.inl ⟨by kernel_rfl, ?hyrax18⟩) (by assumption) ?restrax18
      case hyrax18 => (intro W hSw; (try dsimp only at hSw); go_simp; try with_reducible rfl)
      case' restrax18 => try simp only [Act.put, List.setIfInBounds_toArray, List.set_cons_zero, List.set_cons_succ]
      refine wpAnyH_take (i := 22) (oi := ⟨some 8, _, _, _, _, _⟩) (v := ?vrax19) rfl (by kernel_rfl) (by kernel_rfl) (by kernel_rfl) (fun _ _ _ h => h) (Or.inl ⟨by kernel_rfl, ?hyrax19⟩) (by assumption) ?restrax19
      case hyrax19 => (intro W hSw; (try dsimp only at hSw); go_simp; try with_reducible rfl)
      case' restrax19 => try simp only [Act.put, List.setIfInBounds_toArray, List.set_cons_zero, List.set_cons_succ]
      refine wpAnyH_done (by kernel_rfl) ?_ _
      go_wp2
      go_ret
      exact RetV.bool (by rw [HR.out]; rfl) (hd0.trans (hSWrax4.mono hd0.size))
    · skip
      refine wpAnyH_take (i := 0) (oi := ⟨some 31, _, _, _, _, _⟩) (v := ?vray1) rfl (by kernel_rfl) (by kernel_rfl) (by kernel_rfl) (fun _ _ _ h => h) (Or.inl ⟨by kernel_rfl, ?hyray1⟩) (by assumption) ?restray1
      case hyray1 => (intro W hSw; obtain ⟨k1, k2, k3, k4, k5, k6, k7, k8⟩ := HC.out W hSw; clear hSw; (try dsimp only at hSw); go_simp; try with_reducible rfl)
      case' restray1 => try simp only [Act.put, List.setIfInBounds_toArray, List.set_cons_zero, List.set_cons_succ]
      refine wpAnyH_take (i := 1) (oi := ⟨some 32, _, _, _, _, _⟩) (v := ?vray2) rfl (by kernel_rfl) (by kernel_rfl) (by kernel_rfl) (fun _ _ _ h => h) (Or.inl ⟨by kernel_rfl, ?hyray2⟩) (by assumption) ?restray2
      case hyray2 => (intro W hSw; obtain ⟨k1, k2, k3, k4, k5, k6, k7, k8⟩ := HC.out W hSw; clear hSw; (try dsimp only at hSw); go_simp; try with_reducible rfl)
      case' restray2 => try simp only [Act.put, List.setIfInBounds_toArray, List.set_cons_zero, List.set_cons_succ]
      refine wpAnyH_take (i := 2) (oi := ⟨some 33, _, _, _, _, _⟩) (v := ?vray3) rfl (by kernel_rfl) (by kernel_rfl) (by kernel_rfl) (fun _ _ _ h => h) (Or.inl ⟨by kernel_rfl, ?hyray3⟩) (by assumption) ?restray3
      case hyray3 => (intro W hSw; obtain ⟨k1, k2, k3, k4, k5, k6, k7, k8⟩ := HC.out W hSw; clear hSw; (try dsimp only at hSw); go_simp; try with_reducible rfl)
      case' restray3 => try simp only [Act.put, List.setIfInBounds_toArray, List.set_cons_zero, List.set_cons_succ]
      refine wpAnyH_take (i := 4) (oi := ⟨some 35, _, _, _, _, _⟩) (v := ?vray4) rfl (by kernel_rfl) (by kernel_rfl) (by kernel_rfl) (fun _ _ _ h => h) (Or.inl ⟨by kernel_rfl, ?hyray4⟩) (by assumption) ?restray4
      case hyray4 => (intro W hSw; obtain ⟨k1, k2, k3, k4, k5, k6, k7, k8⟩ := HC.out W hSw; clear hSw; (try dsimp only at hSw); go_simp; try with_reducible rfl)
      case' restray4 => try simp only [Act.put, List.setIfInBounds_toArray, List.set_cons_zero, List.set_cons_succ]
      refine wpAnyH_take (i := 5) (oi := ⟨some 36, _, _, _, _, _⟩) (v := ?vray5) rfl (by kernel_rfl) (by kernel_rfl) (by kernel_rfl) (fun _ _ _ h => h) (Or.inl ⟨by kernel_rfl, ?hyray5⟩) (by assumption) ?restray5
      case hyray5 => (intro W hSw; obtain ⟨k1, k2, k3, k4, k5, k6, k7, k8⟩ := HC.out W hSw; clear hSw; (try dsimp only at hSw); go_simp; try with_reducible rfl)
      case' restray5 => try simp only [Act.put, List.setIfInBounds_toArray, List.set_cons_zero, List.set_cons_succ]
      refine wpAnyH_take (i := 6) (oi := ⟨some 37, _, _, _, _, _⟩) (v := ?vray6) rfl (by kernel_rfl) (by kernel_rfl) (by kernel_rfl) (fun _ _ _ h => h) (Or.inl ⟨by kernel_rfl, ?hyray6⟩) (by assumption) ?restray6
      case hyray6 => (intro W hSw; obtain ⟨k1, k2, k3, k4, k5, k6, k7, k8⟩ := HC.out W hSw; clear hSw; (try dsimp only at hSw); go_simp; try with_reducible rfl)
      case' restray6 => try simp only [Act.put, List.setIfInBounds_toArray, List.set_cons_zero, List.set_cons_succ]
      refine wpAnyH_ready (rs := [3]) (by kernel_rfl) (by simp) ?_
      refine AllReadyH.cons (o := ⟨some 34, _, _, _, _, _⟩) rfl (fun K hK => ?_) AllReadyH.nil
      go_simp
      go_at_call 44
      refine (Cabc.out _).mono ?_
      rintro e Wray1 ⟨rfl, hbWray1⟩
      have hSWray1 := hS0.trans (hbWray1.mono hS0.size)
      try clear hS0
      clear hbWray1
      go_wp2_with fail
      refine hK.out _ _ hSWray1 (fun hHeld => ?_)
      clear hK hHeld K
      try simp only [Act.put, List.setIfInBounds_toArray, List.set_cons_zero, List.set_cons_succ]
      refine wpAnyH_ready (rs := [7]) (by kernel_rfl) (by simp) ?_
      refine AllReadyH.cons (o := ⟨some 38, _, _, _, _, _⟩) rfl (fun K hK => ?_) AllReadyH.nil
      go_simp
      go_at_call 44
      refine (Cabd.out _).mono ?_
      rintro e Wray2 ⟨rfl, hbWray2⟩
      have hSWray2 := hSWray1.trans (hbWray2.mono hSWray1.size)
      try clear hSWray1
      clear hbWray2
      go_wp2_with fail
      refine hK.out _ _ hSWray2 (fun hHeld => ?_)
      clear hK hHeld K
      try simp only [Act.put, List.setIfInBounds_toArray, List.set_cons_zero, List.set_cons_succ]
      refine wpAnyH_take (i := 8) (oi := ⟨some 39, _, _, _, _, _⟩) (v := ?vray7) rfl (by kernel_rfl) (by kernel_rfl) (by kernel_rfl) (fun _ _ _ h => h) (Or.inl ⟨by kernel_rfl, ?hyray7⟩) (by assumption) ?restray7
      case hyray7 => (intro W hSw; (try dsimp only at hSw); go_simp; try with_reducible rfl)
      case' restray7 => try simp only [Act.put, List.setIfInBounds_toArray, List.set_cons_zero, List.set_cons_succ]
      refine wpAnyH_take (i := 9) (oi := ⟨some 40, _, _, _, _, _⟩) (v := ?vray8) rfl (by kernel_rfl) (by kernel_rfl) (by kernel_rfl) (fun _ _ _ h => h) (Or.inl ⟨by kernel_rfl, ?hyray8⟩) (by assumption) ?restray8
      case hyray8 => (intro W hSw; (try dsimp only at hSw); go_simp; try with_reducible rfl)
      case' restray8 => try simp only [Act.put, List.setIfInBounds_toArray, List.set_cons_zero, List.set_cons_succ]
      refine wpAnyH_take (i := 10) (oi := ⟨some 41, _, _, _, _, _⟩) (v := ?vray9) rfl (by kernel_rfl) (by kernel_rfl) (by kernel_rfl) (fun _ _ _ h => h) (Or.inl ⟨by kernel_rfl, ?hyray9⟩) (by assumption) ?restray9
      case hyray9 => (intro W hSw; (try dsimp only at hSw); go_simp; try with_reducible rfl)
      case' restray9 => try simp only [Act.put, List.setIfInBounds_toArray, List.set_cons_zero, List.set_cons_succ]
      refine wpAnyH_take (i := 11) (oi := ⟨some 42, _, _, _, _, _⟩) (v := ?vray10) rfl (by kernel_rfl) (by kernel_rfl) (by kernel_rfl) (fun _ _ _ h => h) (Or.inl ⟨by kernel_rfl, ?hyray10⟩) (by assumption) ?restray10
      case hyray10 => (intro W hSw; obtain ⟨k1, k2, k3, k4, k5, k6, k7, k8⟩ := HC.out W hSw; clear hSw; (try dsimp only at hSw); go_simp; try with_reducible rfl)
      case' restray10 => try simp only [Act.put, List.setIfInBounds_toArray, List.set_cons_zero, List.set_cons_succ]
      refine wpAnyH_take (i := 12) (oi := ⟨some 43, _, _, _, _, _⟩) (v := ?vray11) rfl (by kernel_rfl) (by kernel_rfl) (by kernel_rfl) (fun _ _ _ h => h) (Or.inl ⟨by kernel_rfl, ?hyray11⟩) (by assumption) ?restray11
      case hyray11 => (intro W hSw; obtain ⟨k1, k2, k3, k4, k5, k6, k7, k8⟩ := HC.out W hSw; clear hSw; (try dsimp only at hSw); go_simp; try with_reducible rfl)
      case' restray11 => try simp only [Act.put, List.setIfInBounds_toArray, List.set_cons_zero, List.set_cons_succ]
      refine wpAnyH_take (i := 13) (oi := ⟨some 44, _, _, _, _, _⟩) (v := ?vray12) rfl (by kernel_rfl) (by kernel_rfl) (by kernel_rfl) (fun _ _ _ h => h) (Or.inl ⟨by kernel_rfl, ?hyray12⟩) (by assumption) ?restray12
      case hyray12 => (intro W hSw; obtain ⟨k1, k2, k3, k4, k5, k6, k7, k8⟩ := HC.out W hSw; clear hSw; (try dsimp only at hSw); go_simp; try with_reducible rfl)
      case' restray12 => try simp only [Act.put, List.setIfInBounds_toArray, List.set_cons_zero, List.set_cons_succ]
      refine wpAnyH_take (i := 15) (oi := ⟨some 46, _, _, _, _, _⟩) (v := ?vray13) rfl (by kernel_rfl) (by kernel_rfl) (by kernel_rfl) (fun _ _ _ h => h) (Or.inl ⟨by kernel_rfl, ?hyray13⟩) (by assumption) ?restray13
      case hyray13 => (intro W hSw; obtain ⟨k1, k2, k3, k4, k5, k6, k7, k8⟩ := HC.out W hSw; clear hSw; (try dsimp only at hSw); go_simp; try with_reducible rfl)
      case' restray13 => try simp only [Act.put, List.setIfInBounds_toArray, List.set_cons_zero, List.set_cons_succ]
      refine wpAnyH_take (i := 16) (oi := ⟨some 47, _, _, _, _, _⟩) (v := ?vray14) rfl (by kernel_rfl) (by kernel_rfl) (by kernel_rfl) (fun _ _ _ h => h) (Or.inl ⟨by kernel_rfl, ?hyray14⟩) (by assumption) ?restray14
      case hyray14 => (intro W hSw; obtain ⟨k1, k2, k3, k4, k5, k6, k7, k8⟩ := HC.out W hSw; clear hSw; (try dsimp only at hSw); go_simp; try with_reducible rfl)
      case' restray14 => try simp only [Act.put, List.setIfInBounds_toArray, List.set_cons_zero, List.set_cons_succ]
      refine wpAnyH_take (i := 17) (oi := ⟨some 48, _, _, _, _, _⟩) (v := ?vray15) rfl (by kernel_rfl) (by kernel_rfl) (by kernel_rfl) (fun _ _ _ h => h) (Or.inl ⟨by kernel_rfl, ?hyray15⟩) (by assumption) ?restray15
      case hyray15 => (intro W hSw; obtain ⟨k1, k2, k3, k4, k5, k6, k7, k8⟩ := HC.out W hSw; clear hSw; (try dsimp only at hSw); go_simp; try with_reducible rfl)
      case' restray15 => try simp only [Act.put, List.setIfInBounds_toArray, List.set_cons_zero, List.set_cons_succ]
      refine wpAnyH_ready (rs := [14]) (by kernel_rfl) (by simp) ?_
      refine AllReadyH.cons (o := ⟨some 45, _, _, _, _, _⟩) rfl (fun K hK => ?_) AllReadyH.nil
      go_simp
      go_at_call 44
      refine (Ccda.out _).mono ?_
      rintro e Wray3 ⟨rfl, hbWray3⟩
      have hSWray3 := hSWray2.trans (hbWray3.mono hSWray2.size)
      try clear hSWray2
      clear hbWray3
      go_wp2_with fail
      refine hK.out _ _ hSWray3 (fun hHeld => ?_)
      clear hK hHeld K
      try simp only [Act.put, List.setIfInBounds_toArray, List.set_cons_zero, List.set_cons_succ]
      refine wpAnyH_ready (rs := [18]) (by kernel_rfl) (by simp) ?_
      refine AllReadyH.cons (o := ⟨some 49, _, _, _, _, _⟩) rfl (fun K hK => ?_) AllReadyH.nil
      go_simp
      go_at_call 44
      refine (Ccdb.out _).mono ?_
      rintro e Wray4 ⟨rfl, hbWray4⟩
      have hSWray4 := hSWray3.trans (hbWray4.mono hSWray3.size)
      try clear hSWray3
      clear hbWray4
      go_wp2_with fail
      refine hK.out _ _ hSWray4 (fun hHeld => ?_)
      clear hK hHeld K
      try simp only [Act.put, List.setIfInBounds_toArray, List.set_cons_zero, List.set_cons_succ]
      refine wpAnyH_take (i := 19) (oi := ⟨some 50, _, _, _, _, _⟩) (v := ?vray16) rfl (by kernel_rfl) (by kernel_rfl) (by kernel_rfl) (fun _ _ _ h => h) (Or.inl ⟨by kernel_rfl, ?hyray16⟩) (by assumption) ?restray16
      case hyray16 => (intro W hSw; (try dsimp only at hSw); go_simp; try with_reducible rfl)
      case' restray16 => try simp only [Act.put, List.setIfInBounds_toArray, List.set_cons_zero, List.set_cons_succ]
      refine wpAnyH_take (i := 20) (oi := ⟨some 51, _, _, _, _, _⟩) (v := ?vray17) rfl (by kernel_rfl) (by kernel_rfl) (by kernel_rfl) (fun _ _ _ h => h) (Or.inl ⟨by kernel_rfl, ?hyray17⟩) (by assumption) ?restray17
      case hyray17 => (intro W hSw; (try dsimp only at hSw); go_simp; try with_reducible rfl)
      case' restray17 => try simp only [Act.put, List.setIfInBounds_toArray, List.set_cons_zero, List.set_cons_succ]
      refine wpAnyH_take (i := 21) (oi := ⟨some 52, _, _, _, _, _⟩) (v := ?vray18) rfl (by kernel_rfl) (by kernel_rfl) (by kernel_rfl) (fun _ _ _ h => h) (Or.inl ⟨by kernel_rfl, ?hyray18⟩) (by assumption) ?restray18
      case hyray18 => (intro W hSw; (try dsimp only at hSw); go_simp; try with_reducible rfl)
      case' restray18 => try simp only [Act.put, List.setIfInBounds_toArray, List.set_cons_zero, List.set_cons_succ]
      refine wpAnyH_take (i := 22) (oi := ⟨some 8, _, _, _, _, _⟩) (v := ?vray19) rfl (by kernel_rfl) (by kernel_rfl) (by kernel_rfl) (fun _ _ _ h => h) (Or.inl ⟨by kernel_rfl, ?hyray19⟩) (by assumption) ?restray19
      case hyray19 => (intro W hSw; (try dsimp only at hSw); go_simp; try with_reducible rfl)
      case' restray19 => try simp only [Act.put, List.setIfInBounds_toArray, List.set_cons_zero, List.set_cons_succ]
      refine wpAnyH_done (by kernel_rfl) ?_ _
      go_wp2
      go_ret
      exact RetV.bool (by rw [HR.out]; rfl) (hd0.trans (hSWray4.mono hd0.size))
  · have d5 : decide (s1 * s2 < 0) = false := decide_eq_false e5
    rw [d5] at HR
    clear e5
    have w12' := w12.out
    have w34' := w34.out
    clear w12 w34
    refine wp_region_held_drew (S := fun W : World => Below w4.drew.heap.size w4.drew W) (by kernel_rfl) (Below.refl _ _) (fun hHeld => ?_)
    clear hHeld
    have hd0 : Below w.heap.size w w4.drew := hw4.drew
    have HC : Hid (∀ W, Below w4.drew.heap.size w4.drew W → W.cell? ⟨w.heap.size, 0, none⟩ = some (.int .i64 a1) ∧ W.cell? ⟨w.heap.size, 1, none⟩ = some (.int .i64 a2) ∧ W.cell? ⟨w.heap.size + 1, 0, none⟩ = some (.int .i64 b1) ∧ W.cell? ⟨w.heap.size + 1, 1, none⟩ = some (.int .i64 b2) ∧ W.cell? ⟨w.heap.size + 1 + 1, 0, none⟩ = some (.int .i64 c1) ∧ W.cell? ⟨w.heap.size + 1 + 1, 1, none⟩ = some (.int .i64 c2) ∧ W.cell? ⟨w.heap.size + 1 + 1 + 1, 0, none⟩ = some (.int .i64 d1) ∧ W.cell? ⟨w.heap.size + 1 + 1 + 1, 1, none⟩ = some (.int .i64 d2)) := Lib.hid (fun W hb => box4' w0' HW0.out (hb4.drew.trans (hb.mono hb4.drew.size)))
    clear hb4 hw4 k1 k2 k3 k4 k5 k6 k7 k8
    generalize w4.drew = w0 at *
    have hS0 : (fun W : World => Below w0.heap.size w0 W) w0 := Below.refl _ _
    refine wpAnyH_take (i := 0) (oi := ⟨some 31, _, _, _, _, _⟩) (v := ?vrb1) rfl (by kernel_rfl) (by kernel_rfl) (by kernel_rfl) (fun _ _ _ h => h) (Or.inl ⟨by kernel_rfl, ?hyrb1⟩) (by assumption) ?restrb1
    case hyrb1 => (intro W hSw; obtain ⟨k1, k2, k3, k4, k5, k6, k7, k8⟩ := HC.out W hSw; clear hSw; (try dsimp only at hSw); go_simp; try with_reducible rfl)
    case' restrb1 => try simp only [Act.put, List.setIfInBounds_toArray, List.set_cons_zero, List.set_cons_succ]
    refine wpAnyH_take (i := 1) (oi := ⟨some 32, _, _, _, _, _⟩) (v := ?vrb2) rfl (by kernel_rfl) (by kernel_rfl) (by kernel_rfl) (fun _ _ _ h => h) (Or.inl ⟨by kernel_rfl, ?hyrb2⟩) (by assumption) ?restrb2
    case hyrb2 => (intro W hSw; obtain ⟨k1, k2, k3, k4, k5, k6, k7, k8⟩ := HC.out W hSw; clear hSw; (try dsimp only at hSw); go_simp; try with_reducible rfl)
    case' restrb2 => try simp only [Act.put, List.setIfInBounds_toArray, List.set_cons_zero, List.set_cons_succ]
    refine wpAnyH_take (i := 2) (oi := ⟨some 33, _, _, _, _, _⟩) (v := ?vrb3) rfl (by kernel_rfl) (by kernel_rfl) (by kernel_rfl) (fun _ _ _ h => h) (Or.inl ⟨by kernel_rfl, ?hyrb3⟩) (by assumption) ?restrb3
    case hyrb3 => (intro W hSw; obtain ⟨k1, k2, k3, k4, k5, k6, k7, k8⟩ := HC.out W hSw; clear hSw; (try dsimp only at hSw); go_simp; try with_reducible rfl)
    case' restrb3 => try simp only [Act.put, List.setIfInBounds_toArray, List.set_cons_zero, List.set_cons_succ]
    refine wpAnyH_take (i := 4) (oi := ⟨some 35, _, _, _, _, _⟩) (v := ?vrb4) rfl (by kernel_rfl) (by kernel_rfl) (by kernel_rfl) (fun _ _ _ h => h) (Or.inl ⟨by kernel_rfl, ?hyrb4⟩) (by assumption) ?restrb4
    case hyrb4 => (intro W hSw; obtain ⟨k1, k2, k3, k4, k5, k6, k7, k8⟩ := HC.out W hSw; clear hSw; (try dsimp only at hSw); go_simp; try with_reducible rfl)
    case' restrb4 => try simp only [Act.put, List.setIfInBounds_toArray, List.set_cons_zero, List.set_cons_succ]
    refine wpAnyH_take (i := 5) (oi := ⟨some 36, _, _, _, _, _⟩) (v := ?vrb5) rfl (by kernel_rfl) (by kernel_rfl) (by kernel_rfl) (fun _ _ _ h => h) (Or.inl ⟨by kernel_rfl, ?hyrb5⟩) (by assumption) ?restrb5
    case hyrb5 => (intro W hSw; obtain ⟨k1, k2, k3, k4, k5, k6, k7, k8⟩ := HC.out W hSw; clear hSw; (try dsimp only at hSw); go_simp; try with_reducible rfl)
    case' restrb5 => try simp only [Act.put, List.setIfInBounds_toArray, List.set_cons_zero, List.set_cons_succ]
    refine wpAnyH_take (i := 6) (oi := ⟨some 37, _, _, _, _, _⟩) (v := ?vrb6) rfl (by kernel_rfl) (by kernel_rfl) (by kernel_rfl) (fun _ _ _ h => h) (Or.inl ⟨by kernel_rfl, ?hyrb6⟩) (by assumption) ?restrb6
    case hyrb6 => (intro W hSw; obtain ⟨k1, k2, k3, k4, k5, k6, k7, k8⟩ := HC.out W hSw; clear hSw; (try dsimp only at hSw); go_simp; try with_reducible rfl)
    case' restrb6 => try simp only [Act.put, List.setIfInBounds_toArray, List.set_cons_zero, List.set_cons_succ]
    refine wpAnyH_ready (rs := [3]) (by kernel_rfl) (by simp) ?_
    refine AllReadyH.cons (o := ⟨some 34, _, _, _, _, _⟩) rfl (fun K hK => ?_) AllReadyH.nil
    go_simp
    go_at_call 44
    refine (Cabc.out _).mono ?_
    rintro e Wrb1 ⟨rfl, hbWrb1⟩
    have hSWrb1 := hS0.trans (hbWrb1.mono hS0.size)
    try clear hS0
    clear hbWrb1
    go_wp2_with fail
    refine hK.out _ _ hSWrb1 (fun hHeld => ?_)
    clear hK hHeld K
    try simp only [Act.put, List.setIfInBounds_toArray, List.set_cons_zero, List.set_cons_succ]
    refine wpAnyH_ready (rs := [7]) (by kernel_rfl) (by simp) ?_
    refine AllReadyH.cons (o := ⟨some 38, _, _, _, _, _⟩) rfl (fun K hK => ?_) AllReadyH.nil
    go_simp
    go_at_call 44
    refine (Cabd.out _).mono ?_
    rintro e Wrb2 ⟨rfl, hbWrb2⟩
    have hSWrb2 := hSWrb1.trans (hbWrb2.mono hSWrb1.size)
    try clear hSWrb1
    clear hbWrb2
    go_wp2_with fail
    refine hK.out _ _ hSWrb2 (fun hHeld => ?_)
    clear hK hHeld K
    try simp only [Act.put, List.setIfInBounds_toArray, List.set_cons_zero, List.set_cons_succ]
    refine wpAnyH_take (i := 8) (oi := ⟨some 39, _, _, _, _, _⟩) (v := ?vrb7) rfl (by kernel_rfl) (by kernel_rfl) (by kernel_rfl) (fun _ _ _ h => h) (Or.inl ⟨by kernel_rfl, ?hyrb7⟩) (by assumption) ?restrb7
    case hyrb7 => (intro W hSw; (try dsimp only at hSw); go_simp; try with_reducible rfl)
    case' restrb7 => try simp only [Act.put, List.setIfInBounds_toArray, List.set_cons_zero, List.set_cons_succ]
    refine wpAnyH_take (i := 9) (oi := ⟨some 40, _, _, _, _, _⟩) (v := ?vrb8) rfl (by kernel_rfl) (by kernel_rfl) (by kernel_rfl) (fun _ _ _ h => h) (Or.inl ⟨by kernel_rfl, ?hyrb8⟩) (by assumption) ?restrb8
    case hyrb8 => (intro W hSw; (try dsimp only at hSw); go_simp; try with_reducible rfl)
    case' restrb8 => try simp only [Act.put, List.setIfInBounds_toArray, List.set_cons_zero, List.set_cons_succ]
    refine wpAnyH_take (i := 10) (oi := ⟨some 41, _, _, _, _, _⟩) (v := ?vrb9) rfl (by kernel_rfl) (by kernel_rfl) (by kernel_rfl) (fun _ _ _ h => h) (Or.inl ⟨by kernel_rfl, ?hyrb9⟩) (by assumption) ?restrb9
    case hyrb9 => (intro W hSw; (try dsimp only at hSw); go_simp; try with_reducible rfl)
    case' restrb9 => try simp only [Act.put, List.setIfInBounds_toArray, List.set_cons_zero, List.set_cons_succ]
    refine wpAnyH_take (i := 11) (oi := ⟨some 42, _, _, _, _, _⟩) (v := undef) rfl (by kernel_rfl) (by kernel_rfl) (by kernel_rfl) (fun _ _ _ h => h) (Or.inr ⟨by kernel_rfl, rfl⟩) (by assumption) ?restrb10
    case' restrb10 => try simp only [Act.put, List.setIfInBounds_toArray, List.set_cons_zero, List.set_cons_succ]
    refine wpAnyH_take (i := 12) (oi := ⟨some 43, _, _, _, _, _⟩) (v := undef) rfl (by kernel_rfl) (by kernel_rfl) (by kernel_rfl) (fun _ _ _ h => h) (Or.inr ⟨by kernel_rfl, rfl⟩) (by assumption) ?restrb11
    case' restrb11 => try simp only [Act.put, List.setIfInBounds_toArray, List.set_cons_zero, List.set_cons_succ]
    refine wpAnyH_take (i := 13) (oi := ⟨some 44, _, _, _, _, _⟩) (v := undef) rfl (by kernel_rfl) (by kernel_rfl) (by kernel_rfl) (fun _ _ _ h => h) (Or.inr ⟨by kernel_rfl, rfl⟩) (by assumption) ?restrb12
    case' restrb12 => try simp only [Act.put, List.setIfInBounds_toArray, List.set_cons_zero, List.set_cons_succ]
    refine wpAnyH_take (i := 14) (oi := ⟨some 45, _, _, _, _, _⟩) (v := undef) rfl (by kernel_rfl) (by kernel_rfl) (by kernel_rfl) (fun _ _ _ h => h) (Or.inr ⟨by kernel_rfl, rfl⟩) (by assumption) ?restrb13
    case' restrb13 => try simp only [Act.put, List.setIfInBounds_toArray, List.set_cons_zero, List.set_cons_succ]
    refine wpAnyH_take (i := 15) (oi := ⟨some 46, _, _, _, _, _⟩) (v := undef) rfl (by kernel_rfl) (by kernel_rfl) (by kernel_rfl) (fun _ _ _ h => h) (Or.inr ⟨by kernel_rfl, rfl⟩) (by assumption) ?restrb14
    case' restrb14 => try simp only [Act.put, List.setIfInBounds_toArray, List.set_cons_zero, List.set_cons_succ]
    refine wpAnyH_take (i := 16) (oi := ⟨some 47, _, _, _, _, _⟩) (v := undef) rfl (by kernel_rfl) (by kernel_rfl) (by kernel_rfl) (fun _ _ _ h => h) (Or.inr ⟨by kernel_rfl, rfl⟩) (by assumption) ?restrb15
    case' restrb15 => try simp only [Act.put, List.setIfInBounds_toArray, List.set_cons_zero, List.set_cons_succ]
    refine wpAnyH_take (i := 17) (oi := ⟨some 48, _, _, _, _, _⟩) (v := undef) rfl (by kernel_rfl) (by kernel_rfl) (by kernel_rfl) (fun _ _ _ h => h) (Or.inr ⟨by kernel_rfl, rfl⟩) (by assumption) ?restrb16
    case' restrb16 => try simp only [Act.put, List.setIfInBounds_toArray, List.set_cons_zero, List.set_cons_succ]
    refine wpAnyH_take (i := 18) (oi := ⟨some 49, _, _, _, _, _⟩) (v := undef) rfl (by kernel_rfl) (by kernel_rfl) (by kernel_rfl) (fun _ _ _ h => h) (Or.inr ⟨by kernel_rfl, rfl⟩) (by assumption) ?restrb17
    case' restrb17 => try simp only [Act.put, List.setIfInBounds_toArray, List.set_cons_zero, List.set_cons_succ]
    refine wpAnyH_take (i := 19) (oi := ⟨some 50, _, _, _, _, _⟩) (v := undef) rfl (by kernel_rfl) (by kernel_rfl) (by kernel_rfl) (fun _ _ _ h => h) (Or.inr ⟨by kernel_rfl, rfl⟩) (by assumption) ?restrb18
    case' restrb18 => try simp only [Act.put, List.setIfInBounds_toArray, List.set_cons_zero, List.set_cons_succ]
    refine wpAnyH_take (i := 20) (oi := ⟨some 51, _, _, _, _, _⟩) (v := undef) rfl (by kernel_rfl) (by kernel_rfl) (by kernel_rfl) (fun _ _ _ h => h) (Or.inr ⟨by kernel_rfl, rfl⟩) (by assumption) ?restrb19
    case' restrb19 => try simp only [Act.put, List.setIfInBounds_toArray, List.set_cons_zero, List.set_cons_succ]
    refine wpAnyH_take (i := 21) (oi := ⟨some 52, _, _, _, _, _⟩) (v := ?vrb20) rfl (by kernel_rfl) (by kernel_rfl) (by kernel_rfl) (fun _ _ _ h => h) (Or.inl ⟨by kernel_rfl, ?hyrb20⟩) (by assumption) ?restrb20
    case hyrb20 => (intro W hSw; (try dsimp only at hSw); go_simp; try with_reducible rfl)
    case' restrb20 => try simp only [Act.put, List.setIfInBounds_toArray, List.set_cons_zero, List.set_cons_succ]
    refine wpAnyH_take (i := 22) (oi := ⟨some 8, _, _, _, _, _⟩) (v := ?vrb21) rfl (by kernel_rfl) (by kernel_rfl) (by kernel_rfl) (fun _ _ _ h => h) (Or.inl ⟨by kernel_rfl, ?hyrb21⟩) (by assumption) ?restrb21
    case hyrb21 => (intro W hSw; (try dsimp only at hSw); go_simp; try with_reducible rfl)
    case' restrb21 => try simp only [Act.put, List.setIfInBounds_toArray, List.set_cons_zero, List.set_cons_succ]
    refine wpAnyH_done (by kernel_rfl) ?_ _
    go_wp2
    go_ret
    exact RetV.bool (by rw [HR.out]; rfl) (hd0.trans (hSWrb2.mono hd0.size))
end Go.Proofs
