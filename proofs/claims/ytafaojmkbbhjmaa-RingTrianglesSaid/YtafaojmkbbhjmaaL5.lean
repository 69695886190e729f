/- RingTriangles, walked. -/
import Derived.Test.YtafaojmkbbhjmaaL1
import Derived.Test.YtafaojmkbbhjmaaP4
set_option linter.unusedVariables false
set_option linter.unusedSimpArgs false
namespace Go.Proofs
open Go.RowKit Go.Proofs.Mp

theorem sd_in1 (a b c : Pt) : -1 ≤ sd a b c ∧ sd a b c ≤ 1 := by
  have := sg_cases (tw a b c)
  unfold sd
  omega
/-- the literal's row and the four boxes, later -/
theorem tri_row {w W : World} {a b c p : Pt} (hb : Below ((((((w.alloc (.cells #[.int .i64 a.1, .int .i64 a.2] 32)).alloc (.cells #[.int .i64 b.1, .int .i64 b.2] 32)).alloc (.cells #[.int .i64 c.1, .int .i64 c.2] 32)).alloc (.cells #[.int .i64 p.1, .int .i64 p.2] 32)).alloc (.cells #[.int .i64 a.1, .int .i64 a.2, .int .i64 b.1, .int .i64 b.2, .int .i64 c.1, .int .i64 c.2] 32))).heap.size ((((((w.alloc (.cells #[.int .i64 a.1, .int .i64 a.2] 32)).alloc (.cells #[.int .i64 b.1, .int .i64 b.2] 32)).alloc (.cells #[.int .i64 c.1, .int .i64 c.2] 32)).alloc (.cells #[.int .i64 p.1, .int .i64 p.2] 32)).alloc (.cells #[.int .i64 a.1, .int .i64 a.2, .int .i64 b.1, .int .i64 b.2, .int .i64 c.1, .int .i64 c.2] 32))) W) :
    RdR W (some ⟨w.heap.size + 1 + 1 + 1 + 1, 0, none⟩) [a, b, c] ∧ W.cell? ⟨w.heap.size, 0, none⟩ = some (.int .i64 a.1) ∧ W.cell? ⟨w.heap.size, 1, none⟩ = some (.int .i64 a.2) ∧ W.cell? ⟨w.heap.size + 1, 0, none⟩ = some (.int .i64 b.1) ∧ W.cell? ⟨w.heap.size + 1, 1, none⟩ = some (.int .i64 b.2) ∧ W.cell? ⟨w.heap.size + 1 + 1, 0, none⟩ = some (.int .i64 c.1) ∧ W.cell? ⟨w.heap.size + 1 + 1, 1, none⟩ = some (.int .i64 c.2) ∧ W.cell? ⟨w.heap.size + 1 + 1 + 1, 0, none⟩ = some (.int .i64 p.1) ∧ W.cell? ⟨w.heap.size + 1 + 1 + 1, 1, none⟩ = some (.int .i64 p.2) ∧ Below w.heap.size w W := by
  obtain ⟨k1, k2, k3, k4, k5, k6, k7, k8, h0⟩ := box4 (below_lit hb)
  refine ⟨?_, k1, k2, k3, k4, k5, k6, k7, k8, h0⟩
  exact (lit_rdAt _ _ 32 [a, b, c] rfl _ (by simp)).below hb

set_option maxRecDepth 100000 in
set_option maxHeartbeats 4000000 in
theorem law_triangles (a b c p : Pt) (w : World) : Calls Try.prog 8 #[aggP a, aggP b, aggP c, aggP p] w (RetV w (.bool true)) := by
  have cA := Lib.hid law_awake
  have hch : Hid (∀ (A : Option Addr) (W : World), RdR W A [a, b, c] → Calls Try.prog 11 #[.slice A 3 3] W (RetV W (.int .i64 (chkE [a, b, c])))) := Lib.hid fun A W h => c_check rfl rfl (by simp) h
  have hva : Hid (∀ W, Calls Try.prog 21 #[aggP p] W (RetV W (.bool (decide (Vp p))))) := Lib.hid fun W => ref_point p W
  have HT := Lib.hid fun (W : World) hb => @tri_row w W a b c p hb
  have HTr := Lib.hid fun h : chkE [a, b, c] = 0 => tri_nz h
  have HIn := Lib.hid fun (h : chkE [a, b, c] = 0) (hp : Vp p) => tri_in h hp
  have HTw := Lib.hid fun (h : chkE [a, b, c] = 0) => tri_twice h
  obtain ⟨wB, hwB⟩ : ∃ wB, wB = (((((w.alloc (.cells #[.int .i64 a.1, .int .i64 a.2] 32)).alloc (.cells #[.int .i64 b.1, .int .i64 b.2] 32)).alloc (.cells #[.int .i64 c.1, .int .i64 c.2] 32)).alloc (.cells #[.int .i64 p.1, .int .i64 p.2] 32)).alloc (.cells #[.int .i64 a.1, .int .i64 a.2, .int .i64 b.1, .int .i64 b.2, .int .i64 c.1, .int .i64 c.2] 32)) := ⟨_, rfl⟩
  rw [← hwB] at HT
  have HB := Lib.hid hwB
  clear hwB
  obtain ⟨hR0, -, -, -, -, -, -, -, -, -⟩ := HT.out _ (Below.refl _ _)
  have HR0 := Lib.hid hR0
  clear hR0
  by_cases h0 : chkE [a, b, c] = 0
  rotate_left
  · have hz : (chkE [a, b, c] != 0) = true := by simp [h0]
    clear HTr HIn HTw hva
    generalize chkE [a, b, c] = z at *
    clear h0
    obtain ⟨a1, a2⟩ := a
    obtain ⟨b1, b2⟩ := b
    obtain ⟨c1, c2⟩ := c
    obtain ⟨x, y⟩ := p
    unfold aggP at *
    dsimp only at *
    go_enter Try.func8, Try.ntmps8
    go_upto_region 2 with fail
    rw [← HB.out]
    clear HB
    go_wp2_with fail
    refine (hch.out _ _ HR0.out).mono ?_
    rintro e w1 ⟨rfl, hb1⟩
    clear HR0
    obtain ⟨-, -, -, -, -, -, -, -, -, h0⟩ := HT.out _ hb1
    go_wp2_with fail
    refine (cA.out _).mono ?_
    rintro e w2 ⟨rfl, hb2⟩
    go_wp2
    go_ret
    exact RetV.bool rfl (below_step h0 hb2)
  rw [h0] at hch
  by_cases hp : Vp p
  rotate_left
  · rw [decide_eq_false hp] at hva
    clear HTr HIn HTw h0 hp
    obtain ⟨a1, a2⟩ := a
    obtain ⟨b1, b2⟩ := b
    obtain ⟨c1, c2⟩ := c
    obtain ⟨x, y⟩ := p
    unfold aggP at *
    dsimp only at *
    go_enter Try.func8, Try.ntmps8
    go_upto_region 2 with fail
    rw [← HB.out]
    clear HB
    go_wp2_with fail
    refine (hch.out _ _ HR0.out).mono ?_
    rintro e w1 ⟨rfl, hb1⟩
    clear HR0
    obtain ⟨-, k1, k2, k3, k4, k5, k6, k7, k8, h0⟩ := HT.out _ hb1
    go_wp2_with fail
    refine (hva.out _).mono ?_
    rintro e w2 ⟨rfl, hb2⟩
    go_wp2_with fail
    refine (cA.out _).mono ?_
    rintro e w3 ⟨rfl, hb3⟩
    go_wp2
    go_ret
    exact RetV.bool rfl (below_step h0 (hb2.trans (hb3.mono hb2.size)))
  rw [decide_eq_true hp] at hva
  obtain ⟨hnz, va, vb, vc⟩ := HTr.out h0
  have cIn := Lib.hid fun (A : Option Addr) (W : World) (h : RdR W A [a, b, c]) => ring_in A 3 [a, b, c] p W (by simp) h
  have cTw := Lib.hid fun (A : Option Addr) (W : World) (h : RdR W A [a, b, c]) => ring_twice A 3 [a, b, c] W (by simp) h
  have cGt := Lib.hid fun W => geom_Twice a b c W va.nr vb.nr vc.nr
  have s1 := Lib.hid fun W => geom_Side a b p W va.nr vb.nr hp.nr
  have s2 := Lib.hid fun W => geom_Side b c p W vb.nr vc.nr hp.nr
  have s3 := Lib.hid fun W => geom_Side c a p W vc.nr va.nr hp.nr
  have s4 := Lib.hid fun W => geom_Side a b c W va.nr vb.nr vc.nr
  rw [HTw.out h0] at cTw
  have hnt : sd a b c ≠ 0 := fun h => hnz ((sd_zero _ _ _).1 h)
  have hw0 : inN [a, b, c] p = if sd a b p = sd a b c ∧ sd b c p = sd a b c ∧ sd c a p = sd a b c then 1 else if sd a b p = -sd a b c ∨ sd b c p = -sd a b c ∨ sd c a p = -sd a b c then -1 else 0 := HIn.out h0 hp
  have HW := Lib.hid (show inN [a, b, c] p = if sd a b p = -sd a b c ∨ sd b c p = -sd a b c ∨ sd c a p = -sd a b c then -1 else if sd a b p = sd a b c ∧ sd b c p = sd a b c ∧ sd c a p = sd a b c then 1 else 0 by
    rw [hw0]
    generalize sd a b c = t at *
    generalize sd a b p = z1 at *
    generalize sd b c p = z2 at *
    generalize sd c a p = z3 at *
    by_cases g1 : z1 = t ∧ z2 = t ∧ z3 = t
    · rw [if_pos g1, if_neg (by omega), if_pos g1]
    · rw [if_neg g1, if_neg g1])
  clear hw0 hnt
  have bt := sd_in1 a b c
  clear HTr HIn HTw h0 hnz va vb vc hp
  generalize inN [a, b, c] p = n at *
  generalize sd a b c = t at *
  generalize sd a b p = z1 at *
  generalize sd b c p = z2 at *
  generalize sd c a p = z3 at *
  generalize tw a b c = T at *
  have hneg : IntKind.i64.wrap (-t) = -t := IntWalk.i64_in _ (by omega)
  obtain ⟨a1, a2⟩ := a
  obtain ⟨b1, b2⟩ := b
  obtain ⟨c1, c2⟩ := c
  obtain ⟨x, y⟩ := p
  unfold aggP at *
  dsimp only at *
  go_enter Try.func8, Try.ntmps8
  go_upto_region 2 with fail
  rw [← HB.out]
  clear HB
  go_wp2_with fail
  refine (hch.out _ _ HR0.out).mono ?_
  rintro e w1 ⟨rfl, hb1⟩
  clear HR0
  have hX := HT.out _ hb1
  obtain ⟨-, k1, k2, k3, k4, k5, k6, k7, k8, -⟩ := hX
  go_wp2_with fail
  refine (hva.out _).mono ?_
  rintro e w2 ⟨rfl, hb2⟩
  have hbB := hb1.trans (hb2.mono hb1.size)
  clear hb1 hb2 hva hch k1 k2 k3 k4 k5 k6 k7 k8
  go_upto_region 4 with fail
  refine wp_region_held_drew (S := fun W : World => Below w2.drew.heap.size w2.drew W) (by kernel_rfl) (Below.refl _ _) (fun hHeld => ?_)
  clear hHeld
  have kd : Below wB.heap.size wB w2.drew := hbB.drew
  clear hbB
  generalize w2.drew = w0 at *
  have hS0 : (fun W : World => Below w0.heap.size w0 W) w0 := Below.refl _ _
  refine wpAnyH_take (i := 0) (oi := ⟨some 28, _, _, _, _, _⟩) (v := ?vrd1) rfl (by kernel_rfl) (by kernel_rfl) (by kernel_rfl) (fun _ _ _ h => h) (Or.inl ⟨by kernel_rfl, ?hyrd1⟩) (by assumption) ?restrd1
  case hyrd1 => (intro W hSw; obtain ⟨-, k1, k2, k3, k4, k5, k6, k7, k8, -⟩ := HT.out W (kd.trans (hSw.mono kd.size)); clear hSw; (try dsimp only at hSw); go_simp; try with_reducible rfl)
  case' restrd1 => try simp only [Act.put, List.setIfInBounds_toArray, List.set_cons_zero, List.set_cons_succ]
  refine wpAnyH_take (i := 1) (oi := ⟨some 29, _, _, _, _, _⟩) (v := ?vrd2) rfl (by kernel_rfl) (by kernel_rfl) (by kernel_rfl) (fun _ _ _ h => h) (Or.inl ⟨by kernel_rfl, ?hyrd2⟩) (by assumption) ?restrd2
  case hyrd2 => (intro W hSw; obtain ⟨-, k1, k2, k3, k4, k5, k6, k7, k8, -⟩ := HT.out W (kd.trans (hSw.mono kd.size)); clear hSw; (try dsimp only at hSw); go_simp; try with_reducible rfl)
  case' restrd2 => try simp only [Act.put, List.setIfInBounds_toArray, List.set_cons_zero, List.set_cons_succ]
  refine wpAnyH_take (i := 2) (oi := ⟨some 30, _, _, _, _, _⟩) (v := ?vrd3) rfl (by kernel_rfl) (by kernel_rfl) (by kernel_rfl) (fun _ _ _ h => h) (Or.inl ⟨by kernel_rfl, ?hyrd3⟩) (by assumption) ?restrd3
  case hyrd3 => (intro W hSw; obtain ⟨-, k1, k2, k3, k4, k5, k6, k7, k8, -⟩ := HT.out W (kd.trans (hSw.mono kd.size)); clear hSw; (try dsimp only at hSw); go_simp; try with_reducible rfl)
  case' restrd3 => try simp only [Act.put, List.setIfInBounds_toArray, List.set_cons_zero, List.set_cons_succ]
  refine wpAnyH_take (i := 4) (oi := ⟨some 32, _, _, _, _, _⟩) (v := ?vrd4) rfl (by kernel_rfl) (by kernel_rfl) (by kernel_rfl) (fun _ _ _ h => h) (Or.inl ⟨by kernel_rfl, ?hyrd4⟩) (by assumption) ?restrd4
  case hyrd4 => (intro W hSw; obtain ⟨-, k1, k2, k3, k4, k5, k6, k7, k8, -⟩ := HT.out W (kd.trans (hSw.mono kd.size)); clear hSw; (try dsimp only at hSw); go_simp; try with_reducible rfl)
  case' restrd4 => try simp only [Act.put, List.setIfInBounds_toArray, List.set_cons_zero, List.set_cons_succ]
  refine wpAnyH_take (i := 5) (oi := ⟨some 33, _, _, _, _, _⟩) (v := ?vrd5) rfl (by kernel_rfl) (by kernel_rfl) (by kernel_rfl) (fun _ _ _ h => h) (Or.inl ⟨by kernel_rfl, ?hyrd5⟩) (by assumption) ?restrd5
  case hyrd5 => (intro W hSw; obtain ⟨-, k1, k2, k3, k4, k5, k6, k7, k8, -⟩ := HT.out W (kd.trans (hSw.mono kd.size)); clear hSw; (try dsimp only at hSw); go_simp; try with_reducible rfl)
  case' restrd5 => try simp only [Act.put, List.setIfInBounds_toArray, List.set_cons_zero, List.set_cons_succ]
  refine wpAnyH_take (i := 6) (oi := ⟨some 34, _, _, _, _, _⟩) (v := ?vrd6) rfl (by kernel_rfl) (by kernel_rfl) (by kernel_rfl) (fun _ _ _ h => h) (Or.inl ⟨by kernel_rfl, ?hyrd6⟩) (by assumption) ?restrd6
  case hyrd6 => (intro W hSw; obtain ⟨-, k1, k2, k3, k4, k5, k6, k7, k8, -⟩ := HT.out W (kd.trans (hSw.mono kd.size)); clear hSw; (try dsimp only at hSw); go_simp; try with_reducible rfl)
  case' restrd6 => try simp only [Act.put, List.setIfInBounds_toArray, List.set_cons_zero, List.set_cons_succ]
  refine wpAnyH_take (i := 8) (oi := ⟨some 36, _, _, _, _, _⟩) (v := ?vrd7) rfl (by kernel_rfl) (by kernel_rfl) (by kernel_rfl) (fun _ _ _ h => h) (Or.inl ⟨by kernel_rfl, ?hyrd7⟩) (by assumption) ?restrd7
  case hyrd7 => (intro W hSw; obtain ⟨-, k1, k2, k3, k4, k5, k6, k7, k8, -⟩ := HT.out W (kd.trans (hSw.mono kd.size)); clear hSw; (try dsimp only at hSw); go_simp; try with_reducible rfl)
  case' restrd7 => try simp only [Act.put, List.setIfInBounds_toArray, List.set_cons_zero, List.set_cons_succ]
  refine wpAnyH_take (i := 9) (oi := ⟨some 37, _, _, _, _, _⟩) (v := ?vrd8) rfl (by kernel_rfl) (by kernel_rfl) (by kernel_rfl) (fun _ _ _ h => h) (Or.inl ⟨by kernel_rfl, ?hyrd8⟩) (by assumption) ?restrd8
  case hyrd8 => (intro W hSw; obtain ⟨-, k1, k2, k3, k4, k5, k6, k7, k8, -⟩ := HT.out W (kd.trans (hSw.mono kd.size)); clear hSw; (try dsimp only at hSw); go_simp; try with_reducible rfl)
  case' restrd8 => try simp only [Act.put, List.setIfInBounds_toArray, List.set_cons_zero, List.set_cons_succ]
  refine wpAnyH_take (i := 10) (oi := ⟨some 38, _, _, _, _, _⟩) (v := ?vrd9) rfl (by kernel_rfl) (by kernel_rfl) (by kernel_rfl) (fun _ _ _ h => h) (Or.inl ⟨by kernel_rfl, ?hyrd9⟩) (by assumption) ?restrd9
  case hyrd9 => (intro W hSw; obtain ⟨-, k1, k2, k3, k4, k5, k6, k7, k8, -⟩ := HT.out W (kd.trans (hSw.mono kd.size)); clear hSw; (try dsimp only at hSw); go_simp; try with_reducible rfl)
  case' restrd9 => try simp only [Act.put, List.setIfInBounds_toArray, List.set_cons_zero, List.set_cons_succ]
  refine wpAnyH_ready (rs := [3]) (by kernel_rfl) (by simp) ?_
  refine AllReadyH.cons (o := ⟨some 31, _, _, _, _, _⟩) rfl (fun K hK => ?_) AllReadyH.nil
  go_simp
  go_at_call 22
  refine (s1.out _).mono ?_
  rintro e Wrd1 ⟨rfl, hbWrd1⟩
  have hSWrd1 := hS0.trans (hbWrd1.mono hS0.size)
  try clear hS0
  clear hbWrd1
  go_wp2_with fail
  refine hK.out _ _ hSWrd1 (fun hHeld => ?_)
  clear hK hHeld K
  try simp only [Act.put, List.setIfInBounds_toArray, List.set_cons_zero, List.set_cons_succ]
  refine wpAnyH_ready (rs := [7]) (by kernel_rfl) (by simp) ?_
  refine AllReadyH.cons (o := ⟨some 35, _, _, _, _, _⟩) rfl (fun K hK => ?_) AllReadyH.nil
  go_simp
  go_at_call 22
  refine (s2.out _).mono ?_
  rintro e Wrd2 ⟨rfl, hbWrd2⟩
  have hSWrd2 := hSWrd1.trans (hbWrd2.mono hSWrd1.size)
  try clear hSWrd1
  clear hbWrd2
  go_wp2_with fail
  refine hK.out _ _ hSWrd2 (fun hHeld => ?_)
  clear hK hHeld K
  try simp only [Act.put, List.setIfInBounds_toArray, List.set_cons_zero, List.set_cons_succ]
  refine wpAnyH_ready (rs := [11]) (by kernel_rfl) (by simp) ?_
  refine AllReadyH.cons (o := ⟨some 39, _, _, _, _, _⟩) rfl (fun K hK => ?_) AllReadyH.nil
  go_simp
  go_at_call 22
  refine (s3.out _).mono ?_
  rintro e Wrd3 ⟨rfl, hbWrd3⟩
  have hSWrd3 := hSWrd2.trans (hbWrd3.mono hSWrd2.size)
  try clear hSWrd2
  clear hbWrd3
  go_wp2_with fail
  refine hK.out _ _ hSWrd3 (fun hHeld => ?_)
  clear hK hHeld K
  try simp only [Act.put, List.setIfInBounds_toArray, List.set_cons_zero, List.set_cons_succ]
  refine wpAnyH_take (i := 12) (oi := ⟨some 10, _, _, _, _, _⟩) (v := ?vrd10) rfl (by kernel_rfl) (by kernel_rfl) (by kernel_rfl) (fun _ _ _ h => h) (Or.inl ⟨by kernel_rfl, ?hyrd10⟩) (by assumption) ?restrd10
  case hyrd10 => (intro W hSw; (try dsimp only at hSw); go_simp; try with_reducible rfl)
  case' restrd10 => try simp only [Act.put, List.setIfInBounds_toArray, List.set_cons_zero, List.set_cons_succ]
  refine wpAnyH_take (i := 13) (oi := ⟨some 11, _, _, _, _, _⟩) (v := ?vrd11) rfl (by kernel_rfl) (by kernel_rfl) (by kernel_rfl) (fun _ _ _ h => h) (Or.inl ⟨by kernel_rfl, ?hyrd11⟩) (by assumption) ?restrd11
  case hyrd11 => (intro W hSw; (try dsimp only at hSw); go_simp; try with_reducible rfl)
  case' restrd11 => try simp only [Act.put, List.setIfInBounds_toArray, List.set_cons_zero, List.set_cons_succ]
  refine wpAnyH_take (i := 14) (oi := ⟨some 12, _, _, _, _, _⟩) (v := ?vrd12) rfl (by kernel_rfl) (by kernel_rfl) (by kernel_rfl) (fun _ _ _ h => h) (Or.inl ⟨by kernel_rfl, ?hyrd12⟩) (by assumption) ?restrd12
  case hyrd12 => (intro W hSw; (try dsimp only at hSw); go_simp; try with_reducible rfl)
  case' restrd12 => try simp only [Act.put, List.setIfInBounds_toArray, List.set_cons_zero, List.set_cons_succ]
  refine wpAnyH_done (by kernel_rfl) ?_ _
  obtain ⟨W4, hW4⟩ : ∃ W4, W4 = Wrd3 := ⟨_, rfl⟩
  rw [← hW4]
  have kz : Below wB.heap.size wB W4 := by rw [hW4]; exact kd.trans (hSWrd3.mono kd.size)
  clear hW4 hSWrd3 kd s1 s2 s3
  obtain ⟨-, k1, k2, k3, k4, k5, k6, k7, k8, -⟩ := HT.out _ kz
  go_wp2_with fail
  refine (s4.out _).mono ?_
  rintro e w5 ⟨rfl, hb5⟩
  replace kz := kz.trans (hb5.mono kz.size)
  clear hb5 s4 k1 k2 k3 k4 k5 k6 k7 k8
  go_upto_region 7 with fail
  go_cut [56] (fun v wx => v = .bool (decide (z1 = t ∧ z2 = t ∧ z3 = t)) ∧ Below w5.heap.size w5 wx)
  case first =>
    by_cases e0 : t = z1
    rotate_left
    · have HN0 := Lib.hid (show decide (z1 = t ∧ z2 = t ∧ z3 = t) = false from decide_eq_false (by omega))
      have d0 : ¬ z1 = t := by omega
      clear e0
      go_wp2_with fail
      go_meet
      exact ⟨by first | (rw [HN0.out]; done) | (rw [HN0.out]; simp; omega), Below.refl _ _⟩
    · by_cases e1 : t = z2
      rotate_left
      · have HN0 := Lib.hid (show decide (z1 = t ∧ z2 = t ∧ z3 = t) = false from decide_eq_false (by omega))
        have d1 : ¬ z2 = t := by omega
        clear e1
        subst e0
        go_wp2_with fail
        go_meet
        exact ⟨by first | (rw [HN0.out]; done) | (rw [HN0.out]; simp; omega), Below.refl _ _⟩
      · by_cases e2 : t = z3
        rotate_left
        · have HN0 := Lib.hid (show decide (z1 = t ∧ z2 = t ∧ z3 = t) = false from decide_eq_false (by omega))
          have d2 : ¬ z3 = t := by omega
          clear e2
          subst e0
          subst e1
          go_wp2_with fail
          go_meet
          exact ⟨by first | (rw [HN0.out]; done) | (rw [HN0.out]; simp; omega), Below.refl _ _⟩
        · have HN0 := Lib.hid (show decide (z1 = t ∧ z2 = t ∧ z3 = t) = true from decide_eq_true (by omega))
          subst e0
          subst e1
          subst e2
          go_wp2_with fail
          go_meet
          exact ⟨by first | (rw [HN0.out]; done) | (rw [HN0.out]; simp; omega), Below.refl _ _⟩
  obtain ⟨rfl, hb6⟩ := hcut
  generalize wc = w6 at *
  generalize hq : (decide (z1 = t ∧ z2 = t ∧ z3 = t)) = q
  have HQ := Lib.hid hq
  clear hq
  go_upto_if 56 with fail
  go_cut [14] (fun v wx => v = .int .i64 (if q = true then 1 else 0) ∧ Below w5.heap.size w5 wx)
  case first =>
    cases q
    · go_wp2_with fail
      go_meet
      exact ⟨rfl, hb6⟩
    · go_wp2_with fail
      go_meet
      exact ⟨rfl, hb6⟩
  clear hb6
  obtain ⟨rfl, hb6⟩ := hcut
  generalize wc = w7 at *
  generalize hm : (if q = true then (1 : Int) else 0) = m
  have HM := Lib.hid hm
  clear hm
  go_upto_region 9 with fail
  go_cut [72] (fun v wx => v = .bool (decide (z1 = -t ∨ z2 = -t ∨ z3 = -t)) ∧ Below w7.heap.size w7 wx)
  case first =>
    by_cases e0 : z1 = -t
    · have HN0 := Lib.hid (show decide (z1 = -t ∨ z2 = -t ∨ z3 = -t) = true from decide_eq_true (by omega))
      subst e0
      go_wp2_with fail
      go_meet
      exact ⟨by first | (rw [HN0.out]; done) | (rw [HN0.out]; simp; omega), Below.refl _ _⟩
    · by_cases e1 : z2 = -t
      · have HN0 := Lib.hid (show decide (z1 = -t ∨ z2 = -t ∨ z3 = -t) = true from decide_eq_true (by omega))
        have d0 : ¬ z1 = -t := by omega
        clear e0
        subst e1
        go_wp2_with fail
        go_meet
        exact ⟨by first | (rw [HN0.out]; done) | (rw [HN0.out]; simp; omega), Below.refl _ _⟩
      · by_cases e2 : z3 = -t
        · have HN0 := Lib.hid (show decide (z1 = -t ∨ z2 = -t ∨ z3 = -t) = true from decide_eq_true (by omega))
          have d0 : ¬ z1 = -t := by omega
          have d1 : ¬ z2 = -t := by omega
          clear e0 e1
          subst e2
          go_wp2_with fail
          go_meet
          exact ⟨by first | (rw [HN0.out]; done) | (rw [HN0.out]; simp; omega), Below.refl _ _⟩
        · have HN0 := Lib.hid (show decide (z1 = -t ∨ z2 = -t ∨ z3 = -t) = false from decide_eq_false (by omega))
          have d0 : ¬ z1 = -t := by omega
          have d1 : ¬ z2 = -t := by omega
          have d2 : ¬ z3 = -t := by omega
          clear e0 e1 e2
          go_wp2_with fail
          go_meet
          exact ⟨by first | (rw [HN0.out]; done) | (rw [HN0.out]; simp; omega), Below.refl _ _⟩
  obtain ⟨rfl, hb7⟩ := hcut
  replace hb6 := hb6.trans (hb7.mono hb6.size)
  clear hb7
  generalize wc = w8 at *
  generalize hq2 : (decide (z1 = -t ∨ z2 = -t ∨ z3 = -t)) = q2
  have HQ2 := Lib.hid hq2
  clear hq2
  go_upto_if 72 with fail
  go_cut [14] (fun v wx => v = .int .i64 n ∧ Below w5.heap.size w5 wx)
  case first =>
    cases q2
    · have HN := Lib.hid (HW.out.trans (if_neg (of_decide_eq_false HQ2.out)))
      have HZ : Hid (n = m) := by
        cases q
        · exact Lib.hid ((HN.out.trans (if_neg (of_decide_eq_false HQ.out))).trans HM.out)
        · exact Lib.hid ((HN.out.trans (if_pos (of_decide_eq_true HQ.out))).trans HM.out)
      clear HQ HQ2 HW HN HM
      go_wp2_with fail
      go_meet
      exact ⟨by rw [HZ.out], hb6⟩
    · have HZ := Lib.hid (HW.out.trans (if_pos (of_decide_eq_true HQ2.out)))
      clear HQ HQ2 HW HM
      go_wp2_with fail
      go_meet
      exact ⟨by rw [HZ.out], hb6⟩
  clear HQ HQ2 HM hb6
  obtain ⟨rfl, hb7⟩ := hcut
  generalize wc = w9 at *
  replace kz := kz.trans (hb7.mono kz.size)
  clear hb7 hneg HW bt
  go_upto_region 11 with fail
  refine wp_region_held_drew (S := fun W : World => Below w9.drew.heap.size w9.drew W) (by kernel_rfl) (Below.refl _ _) (fun hHeld => ?_)
  clear hHeld
  have kd : Below wB.heap.size wB w9.drew := kz.drew
  clear kz
  generalize w9.drew = w0 at *
  have hS0 : (fun W : World => Below w0.heap.size w0 W) w0 := Below.refl _ _
  refine wpAnyH_ready (rs := [0]) (by kernel_rfl) (by simp) ?_
  refine AllReadyH.cons (o := ⟨some 73, _, _, _, _, _⟩) rfl (fun K hK => ?_) AllReadyH.nil
  go_simp
  go_at_call 10
  refine (cA.out _).mono ?_
  rintro e Wrf1 ⟨rfl, hbWrf1⟩
  have hSWrf1 := hS0.trans (hbWrf1.mono hS0.size)
  try clear hS0
  clear hbWrf1
  go_wp2_with fail
  refine hK.out _ _ hSWrf1 (fun hHeld => ?_)
  clear hK hHeld K
  try simp only [Act.put, List.setIfInBounds_toArray, List.set_cons_zero, List.set_cons_succ]
  refine wpAnyH_take (i := 1) (oi := ⟨some 74, _, _, _, _, _⟩) (v := ?vrf1) rfl (by kernel_rfl) (by kernel_rfl) (by kernel_rfl) (fun _ _ _ h => h) (Or.inl ⟨by kernel_rfl, ?hyrf1⟩) (by assumption) ?restrf1
  case hyrf1 => (intro W hSw; (try dsimp only at hSw); go_simp; try with_reducible rfl)
  case' restrf1 => try simp only [Act.put, List.setIfInBounds_toArray, List.set_cons_zero, List.set_cons_succ]
  refine wpAnyH_take (i := 2) (oi := ⟨some 75, _, _, _, _, _⟩) (v := ?vrf2) rfl (by kernel_rfl) (by kernel_rfl) (by kernel_rfl) (fun _ _ _ h => h) (Or.inl ⟨by kernel_rfl, ?hyrf2⟩) (by assumption) ?restrf2
  case hyrf2 => (intro W hSw; (try dsimp only at hSw); go_simp; try with_reducible rfl)
  case' restrf2 => try simp only [Act.put, List.setIfInBounds_toArray, List.set_cons_zero, List.set_cons_succ]
  refine wpAnyH_take (i := 3) (oi := ⟨some 76, _, _, _, _, _⟩) (v := ?vrf3) rfl (by kernel_rfl) (by kernel_rfl) (by kernel_rfl) (fun _ _ _ h => h) (Or.inl ⟨by kernel_rfl, ?hyrf3⟩) (by assumption) ?restrf3
  case hyrf3 => (intro W hSw; obtain ⟨-, k1, k2, k3, k4, k5, k6, k7, k8, -⟩ := HT.out W (kd.trans (hSw.mono kd.size)); clear hSw; (try dsimp only at hSw); go_simp; try with_reducible rfl)
  case' restrf3 => try simp only [Act.put, List.setIfInBounds_toArray, List.set_cons_zero, List.set_cons_succ]
  refine wpAnyH_take (i := 5) (oi := ⟨some 78, _, _, _, _, _⟩) (v := ?vrf4) rfl (by kernel_rfl) (by kernel_rfl) (by kernel_rfl) (fun _ _ _ h => h) (Or.inl ⟨by kernel_rfl, ?hyrf4⟩) (by assumption) ?restrf4
  case hyrf4 => (intro W hSw; (try dsimp only at hSw); go_simp; try with_reducible rfl)
  case' restrf4 => try simp only [Act.put, List.setIfInBounds_toArray, List.set_cons_zero, List.set_cons_succ]
  refine wpAnyH_ready (rs := [4]) (by kernel_rfl) (by simp) ?_
  refine AllReadyH.cons (o := ⟨some 77, _, _, _, _, _⟩) rfl (fun K hK => ?_) AllReadyH.nil
  go_simp
  go_at_call 20
  refine (cIn.out _ _ (HT.out _ (kd.trans (hSWrf1.mono kd.size))).1).mono ?_
  rintro e Wrf2 ⟨rfl, hbWrf2⟩
  have hSWrf2 := hSWrf1.trans (hbWrf2.mono hSWrf1.size)
  try clear hSWrf1
  clear hbWrf2
  go_wp2_with fail
  refine hK.out _ _ hSWrf2 (fun hHeld => ?_)
  clear hK hHeld K
  try simp only [Act.put, List.setIfInBounds_toArray, List.set_cons_zero, List.set_cons_succ]
  refine wpAnyH_take (i := 6) (oi := ⟨some 79, _, _, _, _, _⟩) (v := ?vrf5) rfl (by kernel_rfl) (by kernel_rfl) (by kernel_rfl) (fun _ _ _ h => h) (Or.inl ⟨by kernel_rfl, ?hyrf5⟩) (by assumption) ?restrf5
  case hyrf5 => (intro W hSw; (try dsimp only at hSw); go_simp; try with_reducible rfl)
  case' restrf5 => try simp only [Act.put, List.setIfInBounds_toArray, List.set_cons_zero, List.set_cons_succ]
  refine wpAnyH_take (i := 7) (oi := ⟨some 80, _, _, _, _, _⟩) (v := ?vrf6) rfl (by kernel_rfl) (by kernel_rfl) (by kernel_rfl) (fun _ _ _ h => h) (Or.inl ⟨by kernel_rfl, ?hyrf6⟩) (by assumption) ?restrf6
  case hyrf6 => (intro W hSw; (try dsimp only at hSw); go_simp; try with_reducible rfl)
  case' restrf6 => try simp only [Act.put, List.setIfInBounds_toArray, List.set_cons_zero, List.set_cons_succ]
  refine wpAnyH_take (i := 8) (oi := ⟨some 81, _, _, _, _, _⟩) (v := ?vrf7) rfl (by kernel_rfl) (by kernel_rfl) (by kernel_rfl) (fun _ _ _ h => h) (Or.inl ⟨by kernel_rfl, ?hyrf7⟩) (by assumption) ?restrf7
  case hyrf7 => (intro W hSw; (try dsimp only at hSw); go_simp; try with_reducible rfl)
  case' restrf7 => try simp only [Act.put, List.setIfInBounds_toArray, List.set_cons_zero, List.set_cons_succ]
  refine wpAnyH_take (i := 9) (oi := ⟨some 82, _, _, _, _, _⟩) (v := ?vrf8) rfl (by kernel_rfl) (by kernel_rfl) (by kernel_rfl) (fun _ _ _ h => h) (Or.inl ⟨by kernel_rfl, ?hyrf8⟩) (by assumption) ?restrf8
  case hyrf8 => (intro W hSw; (try dsimp only at hSw); go_simp; try with_reducible rfl)
  case' restrf8 => try simp only [Act.put, List.setIfInBounds_toArray, List.set_cons_zero, List.set_cons_succ]
  refine wpAnyH_take (i := 11) (oi := ⟨some 84, _, _, _, _, _⟩) (v := ?vrf9) rfl (by kernel_rfl) (by kernel_rfl) (by kernel_rfl) (fun _ _ _ h => h) (Or.inl ⟨by kernel_rfl, ?hyrf9⟩) (by assumption) ?restrf9
  case hyrf9 => (intro W hSw; obtain ⟨-, k1, k2, k3, k4, k5, k6, k7, k8, -⟩ := HT.out W (kd.trans (hSw.mono kd.size)); clear hSw; (try dsimp only at hSw); go_simp; try with_reducible rfl)
  case' restrf9 => try simp only [Act.put, List.setIfInBounds_toArray, List.set_cons_zero, List.set_cons_succ]
  refine wpAnyH_take (i := 12) (oi := ⟨some 85, _, _, _, _, _⟩) (v := ?vrf10) rfl (by kernel_rfl) (by kernel_rfl) (by kernel_rfl) (fun _ _ _ h => h) (Or.inl ⟨by kernel_rfl, ?hyrf10⟩) (by assumption) ?restrf10
  case hyrf10 => (intro W hSw; obtain ⟨-, k1, k2, k3, k4, k5, k6, k7, k8, -⟩ := HT.out W (kd.trans (hSw.mono kd.size)); clear hSw; (try dsimp only at hSw); go_simp; try with_reducible rfl)
  case' restrf10 => try simp only [Act.put, List.setIfInBounds_toArray, List.set_cons_zero, List.set_cons_succ]
  refine wpAnyH_take (i := 13) (oi := ⟨some 86, _, _, _, _, _⟩) (v := ?vrf11) rfl (by kernel_rfl) (by kernel_rfl) (by kernel_rfl) (fun _ _ _ h => h) (Or.inl ⟨by kernel_rfl, ?hyrf11⟩) (by assumption) ?restrf11
  case hyrf11 => (intro W hSw; obtain ⟨-, k1, k2, k3, k4, k5, k6, k7, k8, -⟩ := HT.out W (kd.trans (hSw.mono kd.size)); clear hSw; (try dsimp only at hSw); go_simp; try with_reducible rfl)
  case' restrf11 => try simp only [Act.put, List.setIfInBounds_toArray, List.set_cons_zero, List.set_cons_succ]
  refine wpAnyH_ready (rs := [10]) (by kernel_rfl) (by simp) ?_
  refine AllReadyH.cons (o := ⟨some 83, _, _, _, _, _⟩) rfl (fun K hK => ?_) AllReadyH.nil
  go_simp
  go_at_call 13
  refine (cTw.out _ _ (HT.out _ (kd.trans (hSWrf2.mono kd.size))).1).mono ?_
  rintro e Wrf3 ⟨rfl, hbWrf3⟩
  have hSWrf3 := hSWrf2.trans (hbWrf3.mono hSWrf2.size)
  try clear hSWrf2
  clear hbWrf3
  go_wp2_with fail
  refine hK.out _ _ hSWrf3 (fun hHeld => ?_)
  clear hK hHeld K
  try simp only [Act.put, List.setIfInBounds_toArray, List.set_cons_zero, List.set_cons_succ]
  refine wpAnyH_ready (rs := [14]) (by kernel_rfl) (by simp) ?_
  refine AllReadyH.cons (o := ⟨some 87, _, _, _, _, _⟩) rfl (fun K hK => ?_) AllReadyH.nil
  go_simp
  go_at_call 23
  refine (cGt.out _).mono ?_
  rintro e Wrf4 ⟨rfl, hbWrf4⟩
  have hSWrf4 := hSWrf3.trans (hbWrf4.mono hSWrf3.size)
  try clear hSWrf3
  clear hbWrf4
  go_wp2_with fail
  refine hK.out _ _ hSWrf4 (fun hHeld => ?_)
  clear hK hHeld K
  try simp only [Act.put, List.setIfInBounds_toArray, List.set_cons_zero, List.set_cons_succ]
  refine wpAnyH_take (i := 15) (oi := ⟨some 88, _, _, _, _, _⟩) (v := ?vrf12) rfl (by kernel_rfl) (by kernel_rfl) (by kernel_rfl) (fun _ _ _ h => h) (Or.inl ⟨by kernel_rfl, ?hyrf12⟩) (by assumption) ?restrf12
  case hyrf12 => (intro W hSw; (try dsimp only at hSw); go_simp; try with_reducible rfl)
  case' restrf12 => try simp only [Act.put, List.setIfInBounds_toArray, List.set_cons_zero, List.set_cons_succ]
  refine wpAnyH_take (i := 16) (oi := ⟨some 89, _, _, _, _, _⟩) (v := ?vrf13) rfl (by kernel_rfl) (by kernel_rfl) (by kernel_rfl) (fun _ _ _ h => h) (Or.inl ⟨by kernel_rfl, ?hyrf13⟩) (by assumption) ?restrf13
  case hyrf13 => (intro W hSw; (try dsimp only at hSw); go_simp; try with_reducible rfl)
  case' restrf13 => try simp only [Act.put, List.setIfInBounds_toArray, List.set_cons_zero, List.set_cons_succ]
  refine wpAnyH_take (i := 17) (oi := ⟨some 8, _, _, _, _, _⟩) (v := ?vrf14) rfl (by kernel_rfl) (by kernel_rfl) (by kernel_rfl) (fun _ _ _ h => h) (Or.inl ⟨by kernel_rfl, ?hyrf14⟩) (by assumption) ?restrf14
  case hyrf14 => (intro W hSw; (try dsimp only at hSw); go_simp; try with_reducible rfl)
  case' restrf14 => try simp only [Act.put, List.setIfInBounds_toArray, List.set_cons_zero, List.set_cons_succ]
  refine wpAnyH_done (by kernel_rfl) ?_ _
  go_wp2
  go_ret
  exact RetV.bool rfl (HT.out _ (kd.trans (hSWrf4.mono kd.size))).2.2.2.2.2.2.2.2.2
end Go.Proofs
