/- ContourInside, walked. -/
import Derived.Test.YtcfhhkdjdpkjpaaXJ15
set_option linter.unusedVariables false
set_option linter.unusedSimpArgs false
namespace Go.Proofs
open Go.RowKit Go.Proofs.Mp Go.Lib

set_option maxRecDepth 100000 in
set_option maxHeartbeats 4000000 in
theorem law_inside (lv : Int) (xs : List Pt) (p : Pt) (A : Option Addr) (c : Nat) (w : World) (hmax : xs.length ≤ 9223372036854775807) (hR : Rd 2 encR w A xs) : Calls Try.prog 5 #[.agg #[.int .i64 lv, .slice A xs.length c], aggP p] w (RetV w (.bool true)) := by
  have cA := Lib.hid law_awake
  by_cases hlt : xs.length ≤ 500
  rotate_left
  · have hd : (500 : Int) < (xs.length : Int) := by omega
    obtain ⟨px, py⟩ := p
    unfold aggP
    dsimp only
    have HB := Lib.hid (bw2' w (.cells #[.int .i64 lv, .slice A xs.length c] 41) (.cells #[.int .i64 px, .int .i64 py] 23))
    clear hR hlt
    go_enter Try.func5, Try.ntmps5
    go_wp2_with fail
    refine (cA.out _).mono ?_
    rintro e w1 ⟨rfl, hb⟩
    have hb2 := HB.out.trans (hb.mono HB.out.size)
    go_wp2
    go_ret
    exact RetV.bool rfl hb2
  have hd : ¬ (500 : Int) < (xs.length : Int) := by omega
  have cI := Lib.hid fun (W' : World) (hb : Below w.heap.size w W') => con_Inside lv xs p A c W' (hR.below hb) (by omega)
  have cJ := Lib.hid fun (W' : World) (hb : Below w.heap.size w W') => ref_Inside lv xs p A c W' (hR.below hb) (by omega)
  clear hR hlt hmax
  generalize insV xs p = z at *
  obtain ⟨px, py⟩ := p
  unfold aggP at *
  dsimp only at *
  obtain ⟨k1, k2, hB, hz⟩ := blk2 w (.cells #[.int .i64 lv, .slice A xs.length c] 41) (.cells #[.int .i64 px, .int .i64 py] 23)
  have HI := Lib.hid fun (W' : World) (hb : Below ((w.alloc (.cells #[.int .i64 lv, .slice A xs.length c] 41)).alloc (.cells #[.int .i64 px, .int .i64 py] 23)).heap.size ((w.alloc (.cells #[.int .i64 lv, .slice A xs.length c] 41)).alloc (.cells #[.int .i64 px, .int .i64 py] 23)) W') => (show W'.cell? ⟨w.heap.size, 0, none⟩ = some (.int .i64 lv) ∧ W'.cell? ⟨w.heap.size, 1, none⟩ = some (.slice A xs.length c) ∧ W'.cell? ⟨w.heap.size + 1, 0, none⟩ = some (.int .i64 px) ∧ W'.cell? ⟨w.heap.size + 1, 1, none⟩ = some (.int .i64 py) from by
    have h1 := (hb.block w.heap.size (by omega)).trans k1
    have h2 := (hb.block (w.heap.size + 1) (by omega)).trans k2
    exact ⟨by rw [cell_of_row _ _ _ _ _ _ h1]; rfl, by rw [cell_of_row _ _ _ _ _ _ h1]; rfl, by rw [cell_of_row _ _ _ _ _ _ h2]; rfl, by rw [cell_of_row _ _ _ _ _ _ h2]; rfl⟩)
  have HB := Lib.hid hB
  clear k1 k2 hB hz
  generalize xs.length = n at *
  go_enter Try.func5, Try.ntmps5
  go_upto_region 1 with fail
  generalize ((w.alloc (.cells #[.int .i64 lv, .slice A n c] 41)).alloc (.cells #[.int .i64 px, .int .i64 py] 23)) = w0 at *
  obtain ⟨i1, i2, i3, i4⟩ := HI.out w0 (Below.refl _ _)
  go_upto_region 3 with fail
  clear i1 i2 i3 i4
  have hS0 : (fun W' : World => Below w0.heap.size w0 W') w0.drew := (Below.refl _ _).drew
  refine wp_region_held_drew (S := (fun W' : World => Below w0.heap.size w0 W')) (by kernel_rfl) hS0 (fun hHeld => ?_)
  clear hHeld
  generalize w0.drew = wy at *
  refine wpAnyH_take (i := 0) (oi := ⟨some 10, _, _, _, _, _⟩) (v := ?vra1) rfl (by kernel_rfl) (by kernel_rfl) (by kernel_rfl) (fun _ _ _ h => h) (Or.inl ⟨by kernel_rfl, ?hyra1⟩) (by assumption) ?restra1
  case hyra1 => (intro W hSw; obtain ⟨d1, d2, d3, d4⟩ := HI.out W hSw; clear hSw; (try dsimp only at hSw); go_simp; try with_reducible rfl)
  case' restra1 => try simp only [Act.put, List.setIfInBounds_toArray, List.set_cons_zero, List.set_cons_succ]
  refine wpAnyH_take (i := 1) (oi := ⟨some 11, _, _, _, _, _⟩) (v := ?vra2) rfl (by kernel_rfl) (by kernel_rfl) (by kernel_rfl) (fun _ _ _ h => h) (Or.inl ⟨by kernel_rfl, ?hyra2⟩) (by assumption) ?restra2
  case hyra2 => (intro W hSw; obtain ⟨d1, d2, d3, d4⟩ := HI.out W hSw; clear hSw; (try dsimp only at hSw); go_simp; try with_reducible rfl)
  case' restra2 => try simp only [Act.put, List.setIfInBounds_toArray, List.set_cons_zero, List.set_cons_succ]
  refine wpAnyH_take (i := 3) (oi := ⟨some 13, _, _, _, _, _⟩) (v := ?vra3) rfl (by kernel_rfl) (by kernel_rfl) (by kernel_rfl) (fun _ _ _ h => h) (Or.inl ⟨by kernel_rfl, ?hyra3⟩) (by assumption) ?restra3
  case hyra3 => (intro W hSw; obtain ⟨d1, d2, d3, d4⟩ := HI.out W hSw; clear hSw; (try dsimp only at hSw); go_simp; try with_reducible rfl)
  case' restra3 => try simp only [Act.put, List.setIfInBounds_toArray, List.set_cons_zero, List.set_cons_succ]
  refine wpAnyH_take (i := 4) (oi := ⟨some 14, _, _, _, _, _⟩) (v := ?vra4) rfl (by kernel_rfl) (by kernel_rfl) (by kernel_rfl) (fun _ _ _ h => h) (Or.inl ⟨by kernel_rfl, ?hyra4⟩) (by assumption) ?restra4
  case hyra4 => (intro W hSw; obtain ⟨d1, d2, d3, d4⟩ := HI.out W hSw; clear hSw; (try dsimp only at hSw); go_simp; try with_reducible rfl)
  case' restra4 => try simp only [Act.put, List.setIfInBounds_toArray, List.set_cons_zero, List.set_cons_succ]
  refine wpAnyH_ready (rs := [2]) (by kernel_rfl) (by simp) ?_
  refine AllReadyH.cons (o := ⟨some 12, _, _, _, _, _⟩) rfl (fun K hK => ?_) AllReadyH.nil
  go_simp
  go_at_call 19
  refine (cI.out _ (HB.out.trans (hS0.mono HB.out.size))).mono ?_
  rintro e Wra1 ⟨rfl, hbWra1⟩
  have hSWra1 := hS0.trans (hbWra1.mono hS0.size)
  try clear hS0
  clear hbWra1
  go_wp2_with fail
  refine hK.out _ _ hSWra1 (fun hHeld => ?_)
  clear hK hHeld K
  try simp only [Act.put, List.setIfInBounds_toArray, List.set_cons_zero, List.set_cons_succ]
  refine wpAnyH_ready (rs := [5]) (by kernel_rfl) (by simp) ?_
  refine AllReadyH.cons (o := ⟨some 15, _, _, _, _, _⟩) rfl (fun K hK => ?_) AllReadyH.nil
  go_simp
  go_at_call 20
  refine (cJ.out _ (HB.out.trans (hSWra1.mono HB.out.size))).mono ?_
  rintro e Wra2 ⟨rfl, hbWra2⟩
  have hSWra2 := hSWra1.trans (hbWra2.mono hSWra1.size)
  try clear hSWra1
  clear hbWra2
  go_wp2_with fail
  refine hK.out _ _ hSWra2 (fun hHeld => ?_)
  clear hK hHeld K
  try simp only [Act.put, List.setIfInBounds_toArray, List.set_cons_zero, List.set_cons_succ]
  refine wpAnyH_take (i := 6) (oi := ⟨some 16, _, _, _, _, _⟩) (v := ?vra5) rfl (by kernel_rfl) (by kernel_rfl) (by kernel_rfl) (fun _ _ _ h => h) (Or.inl ⟨by kernel_rfl, ?hyra5⟩) (by assumption) ?restra5
  case hyra5 => (intro W hSw; (try dsimp only at hSw); go_simp; try with_reducible rfl)
  case' restra5 => try simp only [Act.put, List.setIfInBounds_toArray, List.set_cons_zero, List.set_cons_succ]
  refine wpAnyH_take (i := 7) (oi := ⟨some 17, _, _, _, _, _⟩) (v := ?vra6) rfl (by kernel_rfl) (by kernel_rfl) (by kernel_rfl) (fun _ _ _ h => h) (Or.inl ⟨by kernel_rfl, ?hyra6⟩) (by assumption) ?restra6
  case hyra6 => (intro W hSw; (try dsimp only at hSw); go_simp; try with_reducible rfl)
  case' restra6 => try simp only [Act.put, List.setIfInBounds_toArray, List.set_cons_zero, List.set_cons_succ]
  refine wpAnyH_ready (rs := [8]) (by kernel_rfl) (by simp) ?_
  refine AllReadyH.cons (o := ⟨some 18, _, _, _, _, _⟩) rfl (fun K hK => ?_) AllReadyH.nil
  go_simp
  go_at_call 11
  refine (cA.out _).mono ?_
  rintro e Wra3 ⟨rfl, hbWra3⟩
  have hSWra3 := hSWra2.trans (hbWra3.mono hSWra2.size)
  try clear hSWra2
  clear hbWra3
  go_wp2_with fail
  refine hK.out _ _ hSWra3 (fun hHeld => ?_)
  clear hK hHeld K
  try simp only [Act.put, List.setIfInBounds_toArray, List.set_cons_zero, List.set_cons_succ]
  refine wpAnyH_take (i := 9) (oi := ⟨some 19, _, _, _, _, _⟩) (v := ?vra7) rfl (by kernel_rfl) (by kernel_rfl) (by kernel_rfl) (fun _ _ _ h => h) (Or.inl ⟨by kernel_rfl, ?hyra7⟩) (by assumption) ?restra7
  case hyra7 => (intro W hSw; (try dsimp only at hSw); go_simp; try with_reducible rfl)
  case' restra7 => try simp only [Act.put, List.setIfInBounds_toArray, List.set_cons_zero, List.set_cons_succ]
  refine wpAnyH_take (i := 10) (oi := ⟨some 4, _, _, _, _, _⟩) (v := ?vra8) rfl (by kernel_rfl) (by kernel_rfl) (by kernel_rfl) (fun _ _ _ h => h) (Or.inl ⟨by kernel_rfl, ?hyra8⟩) (by assumption) ?restra8
  case hyra8 => (intro W hSw; (try dsimp only at hSw); go_simp; try with_reducible rfl)
  case' restra8 => try simp only [Act.put, List.setIfInBounds_toArray, List.set_cons_zero, List.set_cons_succ]
  refine wpAnyH_done (by kernel_rfl) ?_ _
  go_wp2
  go_ret
  exact RetV.bool rfl (HB.out.trans (hSWra3.mono HB.out.size))
end Go.Proofs
