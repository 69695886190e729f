/- RingLocates, walked. -/
import Derived.Test.YtafaojmkbbhjmaaL1
import Derived.Test.YtafaojmkbbhjmaaP2
set_option linter.unusedVariables false
set_option linter.unusedSimpArgs false
namespace Go.Proofs
open Go.RowKit Go.Proofs.Mp

set_option maxRecDepth 100000 in
set_option maxHeartbeats 4000000 in
theorem law_locates (A : Option Addr) (c : Nat) (l : List Pt) (p : Pt) (w : World) (hmax : l.length ≤ 9223372036854775807) (hR : RdR w A l) : Calls Try.prog 9 #[.slice A l.length c, aggP p] w (RetV w (.bool true)) := by
  have cA := Lib.hid law_awake
  by_cases h : l.length ≤ 100
  rotate_left
  · have hd : decide ((100 : Int) < (l.length : Int)) = true := decide_eq_true (by omega)
    have H := Lib.hid h
    clear h
    obtain ⟨x, y⟩ := p
    unfold aggP
    dsimp only
    go_enter Try.func9, Try.ntmps9
    go_wp2_with fail
    refine (cA.out _).mono ?_
    rintro e w1 ⟨rfl, hb⟩
    have hb2 := below_lit hb
    go_wp2
    go_ret
    exact RetV.bool rfl hb2
  have hd : decide ((100 : Int) < (l.length : Int)) = false := decide_eq_false (by omega)
  have hm : l.length ≤ 1000000000000 := by omega
  have H := Lib.hid h
  clear h
  have c1 := Lib.hid fun W (hb : Below w.heap.size w W) => ring_in A c l p W hm (hR.below hb)
  have c2 := Lib.hid fun W (hb : Below w.heap.size w W) => ref_in A c l p W hm (hR.below hb)
  have c3 := Lib.hid fun W (hb : Below w.heap.size w W) => ring_bounds A c l W hm (hR.below hb)
  have c4 := Lib.hid fun W => geom_in (bnd l) p W
  have hin : ¬ inN l p < 0 → decide ((bnd l).x0 ≤ p.1 ∧ p.1 ≤ (bnd l).x1 ∧ (bnd l).y0 ≤ p.2 ∧ p.2 ≤ (bnd l).y1) = true := fun h => decide_eq_true (inN_bnd h)
  clear hR
  generalize decide ((bnd l).x0 ≤ p.1 ∧ p.1 ≤ (bnd l).x1 ∧ (bnd l).y0 ≤ p.2 ∧ p.2 ≤ (bnd l).y1) = z at *
  generalize bnd l = b at *
  generalize inN l p = n at *
  obtain ⟨x0, y0, x1, y1⟩ := b
  obtain ⟨x, y⟩ := p
  have HIN := Lib.hid hin
  clear hin
  unfold aggP aggO at *
  dsimp only at *
  have hw0 := bw1 w (.cells #[.int .i64 x, .int .i64 y] 32)
  go_enter Try.func9, Try.ntmps9
  go_wp2_with fail
  refine (c1.out _ hw0).mono ?_
  rintro e w1 ⟨rfl, hb1⟩
  have HX := Lib.hid fun (W : World) (hW : Below w1.heap.size w1 W) => box_at w W (.int .i64 x) (.int .i64 y) 32 ((hb1.trans (hW.mono hb1.size)).mono (by simp))
  have k := below_lit hb1
  clear hb1 hw0
  go_upto_region 4 with fail
  by_cases hn : n < 0
  · have hd2 : decide (n < 0) = true := decide_eq_true hn
    clear hn
    refine wp_region_held_drew (S := fun W : World => Below w1.drew.heap.size w1.drew W) (by kernel_rfl) (Below.refl _ _) (fun hHeld => ?_)
    clear hHeld
    have kd : Below w.heap.size w w1.drew := below_drewN k 1
    have HXD := Lib.hid fun (W : World) (hW : Below w1.drew.heap.size w1.drew W) => HX.out W ((below_drewN (Below.refl _ _) 1 : Below w1.heap.size w1 w1.drew).trans hW)
    clear k HX
    generalize w1.drew = w0 at *
    have hS0 : (fun W : World => Below w0.heap.size w0 W) w0 := Below.refl _ _
    refine wpAnyH_ready (rs := [0]) (by kernel_rfl) (by simp) ?_
    refine AllReadyH.cons (o := ⟨some 13, _, _, _, _, _⟩) rfl (fun K hK => ?_) AllReadyH.nil
    go_simp
    go_at_call 10
    refine (cA.out _).mono ?_
    rintro e Wra1 ⟨rfl, hbWra1⟩
    have hSWra1 := hS0.trans (hbWra1.mono hS0.size)
    try clear hS0
    clear hbWra1
    go_wp2_with fail
    refine hK.out _ _ hSWra1 (fun hHeld => ?_)
    clear hK hHeld K
    try simp only [Act.put, List.setIfInBounds_toArray, List.set_cons_zero, List.set_cons_succ]
    refine wpAnyH_take (i := 1) (oi := ⟨some 14, _, _, _, _, _⟩) (v := ?vra1) rfl (by kernel_rfl) (by kernel_rfl) (by kernel_rfl) (fun _ _ _ h => h) (Or.inl ⟨by kernel_rfl, ?hyra1⟩) (by assumption) ?restra1
    case hyra1 => (intro W hSw; (try dsimp only at hSw); go_simp; try with_reducible rfl)
    case' restra1 => try simp only [Act.put, List.setIfInBounds_toArray, List.set_cons_zero, List.set_cons_succ]
    refine wpAnyH_take (i := 2) (oi := ⟨some 15, _, _, _, _, _⟩) (v := ?vra2) rfl (by kernel_rfl) (by kernel_rfl) (by kernel_rfl) (fun _ _ _ h => h) (Or.inl ⟨by kernel_rfl, ?hyra2⟩) (by assumption) ?restra2
    case hyra2 => (intro W hSw; (try dsimp only at hSw); go_simp; try with_reducible rfl)
    case' restra2 => try simp only [Act.put, List.setIfInBounds_toArray, List.set_cons_zero, List.set_cons_succ]
    refine wpAnyH_take (i := 3) (oi := ⟨some 16, _, _, _, _, _⟩) (v := ?vra3) rfl (by kernel_rfl) (by kernel_rfl) (by kernel_rfl) (fun _ _ _ h => h) (Or.inl ⟨by kernel_rfl, ?hyra3⟩) (by assumption) ?restra3
    case hyra3 => (intro W hSw; (try dsimp only at hSw); go_simp; try with_reducible rfl)
    case' restra3 => try simp only [Act.put, List.setIfInBounds_toArray, List.set_cons_zero, List.set_cons_succ]
    refine wpAnyH_take (i := 4) (oi := ⟨some 17, _, _, _, _, _⟩) (v := ?vra4) rfl (by kernel_rfl) (by kernel_rfl) (by kernel_rfl) (fun _ _ _ h => h) (Or.inl ⟨by kernel_rfl, ?hyra4⟩) (by assumption) ?restra4
    case hyra4 => (intro W hSw; obtain ⟨k1, k2⟩ := HXD.out W hSw; clear hSw; (try dsimp only at hSw); go_simp; try with_reducible rfl)
    case' restra4 => try simp only [Act.put, List.setIfInBounds_toArray, List.set_cons_zero, List.set_cons_succ]
    refine wpAnyH_ready (rs := [5]) (by kernel_rfl) (by simp) ?_
    refine AllReadyH.cons (o := ⟨some 18, _, _, _, _, _⟩) rfl (fun K hK => ?_) AllReadyH.nil
    go_simp
    go_at_call 24
    refine (c2.out _ (kd.trans (hSWra1.mono kd.size))).mono ?_
    rintro e Wra2 ⟨rfl, hbWra2⟩
    have hSWra2 := hSWra1.trans (hbWra2.mono hSWra1.size)
    try clear hSWra1
    clear hbWra2
    go_wp2_with fail
    refine hK.out _ _ hSWra2 (fun hHeld => ?_)
    clear hK hHeld K
    try simp only [Act.put, List.setIfInBounds_toArray, List.set_cons_zero, List.set_cons_succ]
    refine wpAnyH_take (i := 6) (oi := ⟨some 19, _, _, _, _, _⟩) (v := ?vra5) rfl (by kernel_rfl) (by kernel_rfl) (by kernel_rfl) (fun _ _ _ h => h) (Or.inl ⟨by kernel_rfl, ?hyra5⟩) (by assumption) ?restra5
    case hyra5 => (intro W hSw; (try dsimp only at hSw); go_simp; try with_reducible rfl)
    case' restra5 => try simp only [Act.put, List.setIfInBounds_toArray, List.set_cons_zero, List.set_cons_succ]
    refine wpAnyH_take (i := 7) (oi := ⟨some 20, _, _, _, _, _⟩) (v := ?vra6) rfl (by kernel_rfl) (by kernel_rfl) (by kernel_rfl) (fun _ _ _ h => h) (Or.inl ⟨by kernel_rfl, ?hyra6⟩) (by assumption) ?restra6
    case hyra6 => (intro W hSw; (try dsimp only at hSw); go_simp; try with_reducible rfl)
    case' restra6 => try simp only [Act.put, List.setIfInBounds_toArray, List.set_cons_zero, List.set_cons_succ]
    refine wpAnyH_take (i := 8) (oi := ⟨some 21, _, _, _, _, _⟩) (v := ?vra7) rfl (by kernel_rfl) (by kernel_rfl) (by kernel_rfl) (fun _ _ _ h => h) (Or.inl ⟨by kernel_rfl, ?hyra7⟩) (by assumption) ?restra7
    case hyra7 => (intro W hSw; (try dsimp only at hSw); go_simp; try with_reducible rfl)
    case' restra7 => try simp only [Act.put, List.setIfInBounds_toArray, List.set_cons_zero, List.set_cons_succ]
    refine wpAnyH_take (i := 9) (oi := ⟨some 22, _, _, _, _, _⟩) (v := ?vra8) rfl (by kernel_rfl) (by kernel_rfl) (by kernel_rfl) (fun _ _ _ h => h) (Or.inl ⟨by kernel_rfl, ?hyra8⟩) (by assumption) ?restra8
    case hyra8 => (intro W hSw; (try dsimp only at hSw); go_simp; try with_reducible rfl)
    case' restra8 => try simp only [Act.put, List.setIfInBounds_toArray, List.set_cons_zero, List.set_cons_succ]
    refine wpAnyH_take (i := 10) (oi := ⟨some 23, _, _, _, _, _⟩) (v := ?vra9) rfl (by kernel_rfl) (by kernel_rfl) (by kernel_rfl) (fun _ _ _ h => h) (Or.inl ⟨by kernel_rfl, ?hyra9⟩) (by assumption) ?restra9
    case hyra9 => (intro W hSw; (try dsimp only at hSw); go_simp; try with_reducible rfl)
    case' restra9 => try simp only [Act.put, List.setIfInBounds_toArray, List.set_cons_zero, List.set_cons_succ]
    refine wpAnyH_take (i := 11) (oi := ⟨some 24, _, _, _, _, _⟩) (v := ?vra10) rfl (by kernel_rfl) (by kernel_rfl) (by kernel_rfl) (fun _ _ _ h => h) (Or.inl ⟨by kernel_rfl, ?hyra10⟩) (by assumption) ?restra10
    case hyra10 => (intro W hSw; (try dsimp only at hSw); go_simp; try with_reducible rfl)
    case' restra10 => try simp only [Act.put, List.setIfInBounds_toArray, List.set_cons_zero, List.set_cons_succ]
    refine wpAnyH_take (i := 12) (oi := ⟨some 25, _, _, _, _, _⟩) (v := undef) rfl (by kernel_rfl) (by kernel_rfl) (by kernel_rfl) (fun _ _ _ h => h) (Or.inr ⟨by kernel_rfl, rfl⟩) (by assumption) ?restra11
    case' restra11 => try simp only [Act.put, List.setIfInBounds_toArray, List.set_cons_zero, List.set_cons_succ]
    refine wpAnyH_take (i := 13) (oi := ⟨some 26, _, _, _, _, _⟩) (v := undef) rfl (by kernel_rfl) (by kernel_rfl) (by kernel_rfl) (fun _ _ _ h => h) (Or.inr ⟨by kernel_rfl, rfl⟩) (by assumption) ?restra12
    case' restra12 => try simp only [Act.put, List.setIfInBounds_toArray, List.set_cons_zero, List.set_cons_succ]
    refine wpAnyH_take (i := 14) (oi := ⟨some 27, _, _, _, _, _⟩) (v := undef) rfl (by kernel_rfl) (by kernel_rfl) (by kernel_rfl) (fun _ _ _ h => h) (Or.inr ⟨by kernel_rfl, rfl⟩) (by assumption) ?restra13
    case' restra13 => try simp only [Act.put, List.setIfInBounds_toArray, List.set_cons_zero, List.set_cons_succ]
    refine wpAnyH_take (i := 15) (oi := ⟨some 28, _, _, _, _, _⟩) (v := undef) rfl (by kernel_rfl) (by kernel_rfl) (by kernel_rfl) (fun _ _ _ h => h) (Or.inr ⟨by kernel_rfl, rfl⟩) (by assumption) ?restra14
    case' restra14 => try simp only [Act.put, List.setIfInBounds_toArray, List.set_cons_zero, List.set_cons_succ]
    refine wpAnyH_take (i := 16) (oi := ⟨some 29, _, _, _, _, _⟩) (v := ?vra15) rfl (by kernel_rfl) (by kernel_rfl) (by kernel_rfl) (fun _ _ _ h => h) (Or.inl ⟨by kernel_rfl, ?hyra15⟩) (by assumption) ?restra15
    case hyra15 => (intro W hSw; (try dsimp only at hSw); go_simp; try with_reducible rfl)
    case' restra15 => try simp only [Act.put, List.setIfInBounds_toArray, List.set_cons_zero, List.set_cons_succ]
    refine wpAnyH_take (i := 17) (oi := ⟨some 30, _, _, _, _, _⟩) (v := ?vra16) rfl (by kernel_rfl) (by kernel_rfl) (by kernel_rfl) (fun _ _ _ h => h) (Or.inl ⟨by kernel_rfl, ?hyra16⟩) (by assumption) ?restra16
    case hyra16 => (intro W hSw; (try dsimp only at hSw); go_simp; try with_reducible rfl)
    case' restra16 => try simp only [Act.put, List.setIfInBounds_toArray, List.set_cons_zero, List.set_cons_succ]
    refine wpAnyH_take (i := 18) (oi := ⟨some 4, _, _, _, _, _⟩) (v := ?vra17) rfl (by kernel_rfl) (by kernel_rfl) (by kernel_rfl) (fun _ _ _ h => h) (Or.inl ⟨by kernel_rfl, ?hyra17⟩) (by assumption) ?restra17
    case hyra17 => (intro W hSw; (try dsimp only at hSw); go_simp; try with_reducible rfl)
    case' restra17 => try simp only [Act.put, List.setIfInBounds_toArray, List.set_cons_zero, List.set_cons_succ]
    refine wpAnyH_done (by kernel_rfl) ?_ _
    go_wp2
    go_ret
    exact RetV.bool rfl (kd.trans (hSWra2.mono kd.size))
  · have hd2 : decide (n < 0) = false := decide_eq_false hn
    have hz := HIN.out (by omega)
    subst hz
    clear hn
    refine wp_region_held_drew (S := fun W : World => Below w1.drew.heap.size w1.drew W) (by kernel_rfl) (Below.refl _ _) (fun hHeld => ?_)
    clear hHeld
    have kd : Below w.heap.size w w1.drew := below_drewN k 1
    have HXD := Lib.hid fun (W : World) (hW : Below w1.drew.heap.size w1.drew W) => HX.out W ((below_drewN (Below.refl _ _) 1 : Below w1.heap.size w1 w1.drew).trans hW)
    clear k HX
    generalize w1.drew = w0 at *
    have hS0 : (fun W : World => Below w0.heap.size w0 W) w0 := Below.refl _ _
    refine wpAnyH_ready (rs := [0]) (by kernel_rfl) (by simp) ?_
    refine AllReadyH.cons (o := ⟨some 13, _, _, _, _, _⟩) rfl (fun K hK => ?_) AllReadyH.nil
    go_simp
    go_at_call 10
    refine (cA.out _).mono ?_
    rintro e Wrb1 ⟨rfl, hbWrb1⟩
    have hSWrb1 := hS0.trans (hbWrb1.mono hS0.size)
    try clear hS0
    clear hbWrb1
    go_wp2_with fail
    refine hK.out _ _ hSWrb1 (fun hHeld => ?_)
    clear hK hHeld K
    try simp only [Act.put, List.setIfInBounds_toArray, List.set_cons_zero, List.set_cons_succ]
    refine wpAnyH_take (i := 1) (oi := ⟨some 14, _, _, _, _, _⟩) (v := ?vrb1) rfl (by kernel_rfl) (by kernel_rfl) (by kernel_rfl) (fun _ _ _ h => h) (Or.inl ⟨by kernel_rfl, ?hyrb1⟩) (by assumption) ?restrb1
    case hyrb1 => (intro W hSw; (try dsimp only at hSw); go_simp; try with_reducible rfl)
    case' restrb1 => try simp only [Act.put, List.setIfInBounds_toArray, List.set_cons_zero, List.set_cons_succ]
    refine wpAnyH_take (i := 2) (oi := ⟨some 15, _, _, _, _, _⟩) (v := ?vrb2) rfl (by kernel_rfl) (by kernel_rfl) (by kernel_rfl) (fun _ _ _ h => h) (Or.inl ⟨by kernel_rfl, ?hyrb2⟩) (by assumption) ?restrb2
    case hyrb2 => (intro W hSw; (try dsimp only at hSw); go_simp; try with_reducible rfl)
    case' restrb2 => try simp only [Act.put, List.setIfInBounds_toArray, List.set_cons_zero, List.set_cons_succ]
    refine wpAnyH_take (i := 3) (oi := ⟨some 16, _, _, _, _, _⟩) (v := ?vrb3) rfl (by kernel_rfl) (by kernel_rfl) (by kernel_rfl) (fun _ _ _ h => h) (Or.inl ⟨by kernel_rfl, ?hyrb3⟩) (by assumption) ?restrb3
    case hyrb3 => (intro W hSw; (try dsimp only at hSw); go_simp; try with_reducible rfl)
    case' restrb3 => try simp only [Act.put, List.setIfInBounds_toArray, List.set_cons_zero, List.set_cons_succ]
    refine wpAnyH_take (i := 4) (oi := ⟨some 17, _, _, _, _, _⟩) (v := ?vrb4) rfl (by kernel_rfl) (by kernel_rfl) (by kernel_rfl) (fun _ _ _ h => h) (Or.inl ⟨by kernel_rfl, ?hyrb4⟩) (by assumption) ?restrb4
    case hyrb4 => (intro W hSw; obtain ⟨k1, k2⟩ := HXD.out W hSw; clear hSw; (try dsimp only at hSw); go_simp; try with_reducible rfl)
    case' restrb4 => try simp only [Act.put, List.setIfInBounds_toArray, List.set_cons_zero, List.set_cons_succ]
    refine wpAnyH_ready (rs := [5]) (by kernel_rfl) (by simp) ?_
    refine AllReadyH.cons (o := ⟨some 18, _, _, _, _, _⟩) rfl (fun K hK => ?_) AllReadyH.nil
    go_simp
    go_at_call 24
    refine (c2.out _ (kd.trans (hSWrb1.mono kd.size))).mono ?_
    rintro e Wrb2 ⟨rfl, hbWrb2⟩
    have hSWrb2 := hSWrb1.trans (hbWrb2.mono hSWrb1.size)
    try clear hSWrb1
    clear hbWrb2
    go_wp2_with fail
    refine hK.out _ _ hSWrb2 (fun hHeld => ?_)
    clear hK hHeld K
    try simp only [Act.put, List.setIfInBounds_toArray, List.set_cons_zero, List.set_cons_succ]
    refine wpAnyH_take (i := 6) (oi := ⟨some 19, _, _, _, _, _⟩) (v := ?vrb5) rfl (by kernel_rfl) (by kernel_rfl) (by kernel_rfl) (fun _ _ _ h => h) (Or.inl ⟨by kernel_rfl, ?hyrb5⟩) (by assumption) ?restrb5
    case hyrb5 => (intro W hSw; (try dsimp only at hSw); go_simp; try with_reducible rfl)
    case' restrb5 => try simp only [Act.put, List.setIfInBounds_toArray, List.set_cons_zero, List.set_cons_succ]
    refine wpAnyH_take (i := 7) (oi := ⟨some 20, _, _, _, _, _⟩) (v := ?vrb6) rfl (by kernel_rfl) (by kernel_rfl) (by kernel_rfl) (fun _ _ _ h => h) (Or.inl ⟨by kernel_rfl, ?hyrb6⟩) (by assumption) ?restrb6
    case hyrb6 => (intro W hSw; (try dsimp only at hSw); go_simp; try with_reducible rfl)
    case' restrb6 => try simp only [Act.put, List.setIfInBounds_toArray, List.set_cons_zero, List.set_cons_succ]
    refine wpAnyH_take (i := 8) (oi := ⟨some 21, _, _, _, _, _⟩) (v := ?vrb7) rfl (by kernel_rfl) (by kernel_rfl) (by kernel_rfl) (fun _ _ _ h => h) (Or.inl ⟨by kernel_rfl, ?hyrb7⟩) (by assumption) ?restrb7
    case hyrb7 => (intro W hSw; (try dsimp only at hSw); go_simp; try with_reducible rfl)
    case' restrb7 => try simp only [Act.put, List.setIfInBounds_toArray, List.set_cons_zero, List.set_cons_succ]
    refine wpAnyH_take (i := 9) (oi := ⟨some 22, _, _, _, _, _⟩) (v := ?vrb8) rfl (by kernel_rfl) (by kernel_rfl) (by kernel_rfl) (fun _ _ _ h => h) (Or.inl ⟨by kernel_rfl, ?hyrb8⟩) (by assumption) ?restrb8
    case hyrb8 => (intro W hSw; (try dsimp only at hSw); go_simp; try with_reducible rfl)
    case' restrb8 => try simp only [Act.put, List.setIfInBounds_toArray, List.set_cons_zero, List.set_cons_succ]
    refine wpAnyH_take (i := 10) (oi := ⟨some 23, _, _, _, _, _⟩) (v := ?vrb9) rfl (by kernel_rfl) (by kernel_rfl) (by kernel_rfl) (fun _ _ _ h => h) (Or.inl ⟨by kernel_rfl, ?hyrb9⟩) (by assumption) ?restrb9
    case hyrb9 => (intro W hSw; (try dsimp only at hSw); go_simp; try with_reducible rfl)
    case' restrb9 => try simp only [Act.put, List.setIfInBounds_toArray, List.set_cons_zero, List.set_cons_succ]
    refine wpAnyH_take (i := 11) (oi := ⟨some 24, _, _, _, _, _⟩) (v := ?vrb10) rfl (by kernel_rfl) (by kernel_rfl) (by kernel_rfl) (fun _ _ _ h => h) (Or.inl ⟨by kernel_rfl, ?hyrb10⟩) (by assumption) ?restrb10
    case hyrb10 => (intro W hSw; (try dsimp only at hSw); go_simp; try with_reducible rfl)
    case' restrb10 => try simp only [Act.put, List.setIfInBounds_toArray, List.set_cons_zero, List.set_cons_succ]
    refine wpAnyH_take (i := 12) (oi := ⟨some 25, _, _, _, _, _⟩) (v := ?vrb11) rfl (by kernel_rfl) (by kernel_rfl) (by kernel_rfl) (fun _ _ _ h => h) (Or.inl ⟨by kernel_rfl, ?hyrb11⟩) (by assumption) ?restrb11
    case hyrb11 => (intro W hSw; (try dsimp only at hSw); go_simp; try with_reducible rfl)
    case' restrb11 => try simp only [Act.put, List.setIfInBounds_toArray, List.set_cons_zero, List.set_cons_succ]
    refine wpAnyH_take (i := 14) (oi := ⟨some 27, _, _, _, _, _⟩) (v := ?vrb12) rfl (by kernel_rfl) (by kernel_rfl) (by kernel_rfl) (fun _ _ _ h => h) (Or.inl ⟨by kernel_rfl, ?hyrb12⟩) (by assumption) ?restrb12
    case hyrb12 => (intro W hSw; obtain ⟨k1, k2⟩ := HXD.out W hSw; clear hSw; (try dsimp only at hSw); go_simp; try with_reducible rfl)
    case' restrb12 => try simp only [Act.put, List.setIfInBounds_toArray, List.set_cons_zero, List.set_cons_succ]
    refine wpAnyH_ready (rs := [13]) (by kernel_rfl) (by simp) ?_
    refine AllReadyH.cons (o := ⟨some 26, _, _, _, _, _⟩) rfl (fun K hK => ?_) AllReadyH.nil
    go_simp
    go_at_call 15
    refine (c3.out _ (kd.trans (hSWrb2.mono kd.size))).mono ?_
    rintro e Wrb3 ⟨rfl, hbWrb3⟩
    have hSWrb3 := hSWrb2.trans (hbWrb3.mono hSWrb2.size)
    try clear hSWrb2
    clear hbWrb3
    go_wp2_with fail
    refine hK.out _ _ hSWrb3 (fun hHeld => ?_)
    clear hK hHeld K
    try simp only [Act.put, List.setIfInBounds_toArray, List.set_cons_zero, List.set_cons_succ]
    refine wpAnyH_ready (rs := [15]) (by kernel_rfl) (by simp) ?_
    refine AllReadyH.cons (o := ⟨some 28, _, _, _, _, _⟩) rfl (fun K hK => ?_) AllReadyH.nil
    go_simp
    go_at_call 25
    refine (c4.out _).mono ?_
    rintro e Wrb4 ⟨rfl, hbWrb4⟩
    have hSWrb4 := hSWrb3.trans (hbWrb4.mono hSWrb3.size)
    try clear hSWrb3
    clear hbWrb4
    go_wp2_with fail
    refine hK.out _ _ hSWrb4 (fun hHeld => ?_)
    clear hK hHeld K
    try simp only [Act.put, List.setIfInBounds_toArray, List.set_cons_zero, List.set_cons_succ]
    refine wpAnyH_take (i := 16) (oi := ⟨some 29, _, _, _, _, _⟩) (v := ?vrb13) rfl (by kernel_rfl) (by kernel_rfl) (by kernel_rfl) (fun _ _ _ h => h) (Or.inl ⟨by kernel_rfl, ?hyrb13⟩) (by assumption) ?restrb13
    case hyrb13 => (intro W hSw; (try dsimp only at hSw); go_simp; try with_reducible rfl)
    case' restrb13 => try simp only [Act.put, List.setIfInBounds_toArray, List.set_cons_zero, List.set_cons_succ]
    refine wpAnyH_take (i := 17) (oi := ⟨some 30, _, _, _, _, _⟩) (v := ?vrb14) rfl (by kernel_rfl) (by kernel_rfl) (by kernel_rfl) (fun _ _ _ h => h) (Or.inl ⟨by kernel_rfl, ?hyrb14⟩) (by assumption) ?restrb14
    case hyrb14 => (intro W hSw; (try dsimp only at hSw); go_simp; try with_reducible rfl)
    case' restrb14 => try simp only [Act.put, List.setIfInBounds_toArray, List.set_cons_zero, List.set_cons_succ]
    refine wpAnyH_take (i := 18) (oi := ⟨some 4, _, _, _, _, _⟩) (v := ?vrb15) rfl (by kernel_rfl) (by kernel_rfl) (by kernel_rfl) (fun _ _ _ h => h) (Or.inl ⟨by kernel_rfl, ?hyrb15⟩) (by assumption) ?restrb15
    case hyrb15 => (intro W hSw; (try dsimp only at hSw); go_simp; try with_reducible rfl)
    case' restrb15 => try simp only [Act.put, List.setIfInBounds_toArray, List.set_cons_zero, List.set_cons_succ]
    refine wpAnyH_done (by kernel_rfl) ?_ _
    go_wp2
    go_ret
    exact RetV.bool rfl (kd.trans (hSWrb4.mono kd.size))
end Go.Proofs
