/- Meet and Touch: have two segments common points? -/
import Derived.Test.YtafaojmkbbhjmaaG4
import Derived.Deep.RegionHeld3
set_option linter.unusedVariables false
set_option linter.unusedSimpArgs false
namespace Go.Proofs
open Go.RowKit Go.Proofs.Mp

theorem wpAnyH_share {P : Program} {md : Region.Mode} {ops : Array Oper} {Q : Exit → Act → World → Prop} {S : World → Prop} {f0 : Nat} {l0 : Array Bool} {a0 : Act} {w0 : World} {C : Type} (T : (Nat → Array Bool → Act → World → Prop) → Nat → Array Bool → C → Prop) {x : Nat} {y : Array Bool} {z : C} (main : T (wpAnyH P md ops Q S) x y z → wpAnyH P md ops Q S f0 l0 a0 w0) (tail : T (wpAnyH P md ops Q S) x y z) : wpAnyH P md ops Q S f0 l0 a0 w0 := main tail
theorem wpAnyH_cast {P : Program} {md : Region.Mode} {ops : Array Oper} {Q : Exit → Act → World → Prop} {S : World → Prop} {f f' : Nat} {l l' : Array Bool} {a : Act} {w : World} (hf : f = f') (hl : l = l') (h : wpAnyH P md ops Q S f' l' a w) : wpAnyH P md ops Q S f l a w := by subst hf; subst hl; exact h

theorem sd_in (a b c : Pt) : -1 ≤ sd a b c ∧ sd a b c ≤ 1 := by
  have := sg_cases (tw a b c)
  unfold sd
  omega
theorem mul1 {x y : Int} (hx : -1 ≤ x ∧ x ≤ 1) (hy : -1 ≤ y ∧ y ≤ 1) : IntKind.i64.wrap (x * y) = x * y := by
  have := mul_bound (a := x) (b := y) (n := 1) (m := 1) (by omega) (by omega) (by omega) (by omega) (by omega)
  exact IntWalk.i64_in _ (by omega)
def b2i (b : Bool) : Int := if b = true then 1 else 0
def meetN (a b c d : Pt) : Int :=
  if a = b then b2i (onB c d a)
  else if c = d then b2i (onB a b c)
  else if sd a b c = 0 ∧ sd a b d = 0 then sharedN a b c d
  else b2i (decide (sd a b c * sd a b d ≤ 0) && decide (sd c d a * sd c d b ≤ 0))
def touchB (a b c d : Pt) : Bool :=
  onB a b c || onB a b d || onB c d a || onB c d b || (decide (sd a b c * sd a b d < 0) && decide (sd c d a * sd c d b < 0))
/-- the four boxes of a call, and what the world keeps -/
theorem box4' {w W : World} {a1 a2 b1 b2 c1 c2 d1 d2 : Value} (W0 : World) (hW : W0 = (((w.alloc (.cells #[a1, a2] 32)).alloc (.cells #[b1, b2] 32)).alloc (.cells #[c1, c2] 32)).alloc (.cells #[d1, d2] 32)) (hb : Below W0.heap.size W0 W) :
    W.cell? ⟨w.heap.size, 0, none⟩ = some a1 ∧ W.cell? ⟨w.heap.size, 1, none⟩ = some a2 ∧ W.cell? ⟨w.heap.size + 1, 0, none⟩ = some b1 ∧ W.cell? ⟨w.heap.size + 1, 1, none⟩ = some b2 ∧
    W.cell? ⟨w.heap.size + 1 + 1, 0, none⟩ = some c1 ∧ W.cell? ⟨w.heap.size + 1 + 1, 1, none⟩ = some c2 ∧ W.cell? ⟨w.heap.size + 1 + 1 + 1, 0, none⟩ = some d1 ∧ W.cell? ⟨w.heap.size + 1 + 1 + 1, 1, none⟩ = some d2 := by
  subst hW
  obtain ⟨k1, k2, k3, k4, k5, k6, k7, k8, -⟩ := box4 hb
  exact ⟨k1, k2, k3, k4, k5, k6, k7, k8⟩
theorem bw4 (w : World) (o1 o2 o3 o4 : Obj) : Below w.heap.size w ((((w.alloc o1).alloc o2).alloc o3).alloc o4) := (bw3 w o1 o2 o3).trans ((bw1 _ _).mono (bw3 w o1 o2 o3).size)
set_option maxRecDepth 100000 in
set_option maxHeartbeats 4000000 in
theorem geom_meet (a b c d : Pt) (w : World) (ha : Nr a) (hb : Nr b) (hc : Nr c) (hd : Nr d) : Calls Try.prog 45 #[aggP a, aggP b, aggP c, aggP d] w (RetV w (.int .i64 (meetN a b c d))) := by
  have CN := Lib.hid fun W n hn cap => near4 a b c d ha hb hc hd W n hn cap
  have Cabc := Lib.hid fun W => geom_Side a b c W ha hb hc
  have Cabd := Lib.hid fun W => geom_Side a b d W ha hb hd
  have Ccda := Lib.hid fun W => geom_Side c d a W hc hd ha
  have Ccdb := Lib.hid fun W => geom_Side c d b W hc hd hb
  have Ccon := Lib.hid fun W => geom_on c d a W hc hd ha
  have Cacn := Lib.hid fun W => geom_on a b c W ha hb hc
  have Csh := Lib.hid fun W => geom_shared a b c d W
  have b1 := sd_in a b c
  have b2 := sd_in a b d
  have b3 := sd_in c d a
  have b4 := sd_in c d b
  have w12 := Lib.hid (mul1 b1 b2)
  have w34 := Lib.hid (mul1 b3 b4)
  have HR := Lib.hid (show meetN a b c d = if a = b then b2i (onB c d a) else if c = d then b2i (onB a b c) else if sd a b c = 0 ∧ sd a b d = 0 then sharedN a b c d else b2i (decide (sd a b c * sd a b d ≤ 0) && decide (sd c d a * sd c d b ≤ 0)) from rfl)
  generalize meetN a b c d = res at *
  generalize sharedN a b c d = shr at *
  generalize onB c d a = o1 at *
  generalize onB a b c = o2 at *
  generalize sd a b c = s1 at *
  generalize sd a b d = s2 at *
  generalize sd c d a = s3 at *
  generalize sd c d b = s4 at *
  clear ha hb hc hd b1 b2 b3 b4
  have hG := Try.guard32
  have hN1 := fun W => Try.eql32 a.1 a.2 b.1 b.2 W
  have hN2 := fun W => Try.eql32 c.1 c.2 d.1 d.2 W
  obtain ⟨a1, a2⟩ := a
  obtain ⟨b1, b2⟩ := b
  obtain ⟨c1, c2⟩ := c
  obtain ⟨d1, d2⟩ := d
  unfold aggP at *
  dsimp only at *
  by_cases e1 : ((a1, a2) : Pt) = (b1, b2)
  · rw [decide_eq_true e1] at hN1
    have HR := Lib.hid (HR.out.trans (if_pos e1))
    clear e1 hN2
    go_enter Try.func45, Try.ntmps45
    go_wp2_with fail
    refine (CN.out _ _ (by simp) _).mono ?_
    rintro e w1 ⟨rfl, hb1⟩
    have hb2 := below_lit hb1
    clear hb1
    obtain ⟨k1, k2, k3, k4, k5, k6, k7, k8, hw1⟩ := box4 hb2
    obtain ⟨w0', hw0'⟩ : ∃ w0', w0' = ((((w.alloc (.cells #[.int .i64 a1, .int .i64 a2] 32)).alloc (.cells #[.int .i64 b1, .int .i64 b2] 32)).alloc (.cells #[.int .i64 c1, .int .i64 c2] 32)).alloc (.cells #[.int .i64 d1, .int .i64 d2] 32)) := ⟨_, rfl⟩
    rw [← hw0'] at hb2
    have HW0 := Lib.hid hw0'
    clear hw0'
    go_wp2_with fail
    refine (Ccon.out _).mono ?_
    rintro e w2 ⟨rfl, hb1⟩
    clear k1 k2 k3 k4 k5 k6 k7 k8
    have hb3 := hb2.trans (hb1.mono hb2.size)
    have hw2 := hw1.trans (hb1.mono hw1.size)
    clear hb1
    obtain ⟨k1, k2, k3, k4, k5, k6, k7, k8⟩ := box4' w0' HW0.out hb3
    clear hb2 hw1
    cases o1
    all_goals
      go_wp2
      go_ret
      exact RetV.int (by rw [HR.out]; rfl) hw2
  rw [decide_eq_false e1] at hN1
  have HR := Lib.hid (HR.out.trans (if_neg e1))
  clear e1
  by_cases e2 : ((c1, c2) : Pt) = (d1, d2)
  · rw [decide_eq_true e2] at hN2
    have HR := Lib.hid (HR.out.trans (if_pos e2))
    clear e2
    go_enter Try.func45, Try.ntmps45
    go_wp2_with fail
    refine (CN.out _ _ (by simp) _).mono ?_
    rintro e w1 ⟨rfl, hb1⟩
    have hb2 := below_lit hb1
    clear hb1
    obtain ⟨k1, k2, k3, k4, k5, k6, k7, k8, hw1⟩ := box4 hb2
    obtain ⟨w0', hw0'⟩ : ∃ w0', w0' = ((((w.alloc (.cells #[.int .i64 a1, .int .i64 a2] 32)).alloc (.cells #[.int .i64 b1, .int .i64 b2] 32)).alloc (.cells #[.int .i64 c1, .int .i64 c2] 32)).alloc (.cells #[.int .i64 d1, .int .i64 d2] 32)) := ⟨_, rfl⟩
    rw [← hw0'] at hb2
    have HW0 := Lib.hid hw0'
    clear hw0'
    go_wp2_with fail
    refine (Cacn.out _).mono ?_
    rintro e w2 ⟨rfl, hb1⟩
    clear k1 k2 k3 k4 k5 k6 k7 k8
    have hb3 := hb2.trans (hb1.mono hb2.size)
    have hw2 := hw1.trans (hb1.mono hw1.size)
    clear hb1
    obtain ⟨k1, k2, k3, k4, k5, k6, k7, k8⟩ := box4' w0' HW0.out hb3
    clear hb2 hw1
    cases o2
    all_goals
      go_wp2
      go_ret
      exact RetV.int (by rw [HR.out]; rfl) hw2
  rw [decide_eq_false e2] at hN2
  have HR := Lib.hid (HR.out.trans (if_neg e2))
  clear e2
  by_cases e3 : s1 = 0
  · by_cases e4 : s2 = 0
    · have HR := Lib.hid (HR.out.trans (if_pos ⟨e3, e4⟩))
      subst e3
      subst e4
      go_enter Try.func45, Try.ntmps45
      go_wp2_with fail
      refine (CN.out _ _ (by simp) _).mono ?_
      rintro e w1 ⟨rfl, hb1⟩
      have hb2 := below_lit hb1
      clear hb1
      obtain ⟨k1, k2, k3, k4, k5, k6, k7, k8, hw1⟩ := box4 hb2
      obtain ⟨w0', hw0'⟩ : ∃ w0', w0' = ((((w.alloc (.cells #[.int .i64 a1, .int .i64 a2] 32)).alloc (.cells #[.int .i64 b1, .int .i64 b2] 32)).alloc (.cells #[.int .i64 c1, .int .i64 c2] 32)).alloc (.cells #[.int .i64 d1, .int .i64 d2] 32)) := ⟨_, rfl⟩
      rw [← hw0'] at hb2
      have HW0 := Lib.hid hw0'
      clear hw0'
      go_wp2_with fail
      refine (Cabc.out _).mono ?_
      rintro e w2 ⟨rfl, hb1⟩
      clear k1 k2 k3 k4 k5 k6 k7 k8
      have hb3 := hb2.trans (hb1.mono hb2.size)
      have hw2 := hw1.trans (hb1.mono hw1.size)
      clear hb1
      obtain ⟨k1, k2, k3, k4, k5, k6, k7, k8⟩ := box4' w0' HW0.out hb3
      clear hb2 hw1
      go_wp2_with fail
      refine (Cabd.out _).mono ?_
      rintro e w3 ⟨rfl, hb1⟩
      clear k1 k2 k3 k4 k5 k6 k7 k8
      have hb4 := hb3.trans (hb1.mono hb3.size)
      have hw3 := hw2.trans (hb1.mono hw2.size)
      clear hb1
      obtain ⟨k1, k2, k3, k4, k5, k6, k7, k8⟩ := box4' w0' HW0.out hb4
      clear hb3 hw2
      go_wp2_with fail
      refine (Csh.out _).mono ?_
      rintro e w4 ⟨rfl, hb1⟩
      clear k1 k2 k3 k4 k5 k6 k7 k8
      have hb5 := hb4.trans (hb1.mono hb4.size)
      have hw4 := hw3.trans (hb1.mono hw3.size)
      clear hb1
      obtain ⟨k1, k2, k3, k4, k5, k6, k7, k8⟩ := box4' w0' HW0.out hb5
      clear hb4 hw3
      go_wp2
      go_ret
      exact RetV.int HR.out.symm hw4
    · have HR := Lib.hid (HR.out.trans (if_neg (fun h => e4 h.2)))
      have d4 : decide (s2 = 0) = false := decide_eq_false e4
      have d4' : (s2 == 0) = false := by simp [e4]
      have d3 : decide (s1 = 0) = true := decide_eq_true e3
      have d3' : (s1 == 0) = true := by simp [e3]
      clear e3 e4
      go_enter Try.func45, Try.ntmps45
      go_wp2_with fail
      refine (CN.out _ _ (by simp) _).mono ?_
      rintro e w1 ⟨rfl, hb1⟩
      have hb2 := below_lit hb1
      clear hb1
      obtain ⟨k1, k2, k3, k4, k5, k6, k7, k8, hw1⟩ := box4 hb2
      obtain ⟨w0', hw0'⟩ : ∃ w0', w0' = ((((w.alloc (.cells #[.int .i64 a1, .int .i64 a2] 32)).alloc (.cells #[.int .i64 b1, .int .i64 b2] 32)).alloc (.cells #[.int .i64 c1, .int .i64 c2] 32)).alloc (.cells #[.int .i64 d1, .int .i64 d2] 32)) := ⟨_, rfl⟩
      rw [← hw0'] at hb2
      have HW0 := Lib.hid hw0'
      clear hw0'
      go_wp2_with fail
      refine (Cabc.out _).mono ?_
      rintro e w2 ⟨rfl, hb1⟩
      clear k1 k2 k3 k4 k5 k6 k7 k8
      have hb3 := hb2.trans (hb1.mono hb2.size)
      have hw2 := hw1.trans (hb1.mono hw1.size)
      clear hb1
      obtain ⟨k1, k2, k3, k4, k5, k6, k7, k8⟩ := box4' w0' HW0.out hb3
      clear hb2 hw1
      go_wp2_with fail
      refine (Cabd.out _).mono ?_
      rintro e w3 ⟨rfl, hb1⟩
      clear k1 k2 k3 k4 k5 k6 k7 k8
      have hb4 := hb3.trans (hb1.mono hb3.size)
      have hw3 := hw2.trans (hb1.mono hw2.size)
      clear hb1
      obtain ⟨k1, k2, k3, k4, k5, k6, k7, k8⟩ := box4' w0' HW0.out hb4
      clear hb3 hw2
      go_upto_region 4 with fail
      have HS : Hid (((w3).drew).heap.size = w3.heap.size) := Lib.hid rfl
      by_cases e5 : s1 * s2 ≤ 0
      · have d5 : decide (s1 * s2 ≤ 0) = true := decide_eq_true e5
        rw [d5] at HR
        clear e5
        have w12' := w12.out
        have w34' := w34.out
        clear w12 w34
        refine wp_region_held_drew (S := fun W : World => Below w3.drew.heap.size w3.drew W) (by kernel_rfl) (Below.refl _ _) (fun hHeld => ?_)
        clear hHeld
        have hd0 : Below w.heap.size w w3.drew := hw3.drew
        have HC : Hid (∀ W, Below w3.drew.heap.size w3.drew W → W.cell? ⟨w.heap.size, 0, none⟩ = some (.int .i64 a1) ∧ W.cell? ⟨w.heap.size, 1, none⟩ = some (.int .i64 a2) ∧ W.cell? ⟨w.heap.size + 1, 0, none⟩ = some (.int .i64 b1) ∧ W.cell? ⟨w.heap.size + 1, 1, none⟩ = some (.int .i64 b2) ∧ W.cell? ⟨w.heap.size + 1 + 1, 0, none⟩ = some (.int .i64 c1) ∧ W.cell? ⟨w.heap.size + 1 + 1, 1, none⟩ = some (.int .i64 c2) ∧ W.cell? ⟨w.heap.size + 1 + 1 + 1, 0, none⟩ = some (.int .i64 d1) ∧ W.cell? ⟨w.heap.size + 1 + 1 + 1, 1, none⟩ = some (.int .i64 d2)) := Lib.hid (fun W hb => box4' w0' HW0.out (hb4.drew.trans (hb.mono hb4.drew.size)))
        clear hb4 hw3 k1 k2 k3 k4 k5 k6 k7 k8 HS
        generalize w3.drew = w0 at *
        have hS0 : (fun W : World => Below w0.heap.size w0 W) w0 := Below.refl _ _
        obtain ⟨z, hz⟩ : ∃ z, decide (s3 * s4 ≤ 0) = z := ⟨_, rfl⟩
        rw [hz] at HR
        cases z
        · skip
          refine wpAnyH_take (i := 0) (oi := ⟨some 17, _, _, _, _, _⟩) (v := ?vuax1) rfl (by kernel_rfl) (by kernel_rfl) (by kernel_rfl) (fun _ _ _ h => h) (Or.inl ⟨by kernel_rfl, ?hyuax1⟩) (by assumption) ?restuax1
          case hyuax1 => (intro W hSw; obtain ⟨k1, k2, k3, k4, k5, k6, k7, k8⟩ := HC.out W hSw; clear hSw; (try dsimp only at hSw); go_simp; try with_reducible rfl)
          case' restuax1 => try simp only [Act.put, List.setIfInBounds_toArray, List.set_cons_zero, List.set_cons_succ]
          refine wpAnyH_take (i := 1) (oi := ⟨some 18, _, _, _, _, _⟩) (v := ?vuax2) rfl (by kernel_rfl) (by kernel_rfl) (by kernel_rfl) (fun _ _ _ h => h) (Or.inl ⟨by kernel_rfl, ?hyuax2⟩) (by assumption) ?restuax2
          case hyuax2 => (intro W hSw; obtain ⟨k1, k2, k3, k4, k5, k6, k7, k8⟩ := HC.out W hSw; clear hSw; (try dsimp only at hSw); go_simp; try with_reducible rfl)
          case' restuax2 => try simp only [Act.put, List.setIfInBounds_toArray, List.set_cons_zero, List.set_cons_succ]
          refine wpAnyH_take (i := 2) (oi := ⟨some 19, _, _, _, _, _⟩) (v := ?vuax3) rfl (by kernel_rfl) (by kernel_rfl) (by kernel_rfl) (fun _ _ _ h => h) (Or.inl ⟨by kernel_rfl, ?hyuax3⟩) (by assumption) ?restuax3
          case hyuax3 => (intro W hSw; obtain ⟨k1, k2, k3, k4, k5, k6, k7, k8⟩ := HC.out W hSw; clear hSw; (try dsimp only at hSw); go_simp; try with_reducible rfl)
          case' restuax3 => try simp only [Act.put, List.setIfInBounds_toArray, List.set_cons_zero, List.set_cons_succ]
          refine wpAnyH_take (i := 4) (oi := ⟨some 21, _, _, _, _, _⟩) (v := ?vuax4) rfl (by kernel_rfl) (by kernel_rfl) (by kernel_rfl) (fun _ _ _ h => h) (Or.inl ⟨by kernel_rfl, ?hyuax4⟩) (by assumption) ?restuax4
          case hyuax4 => (intro W hSw; obtain ⟨k1, k2, k3, k4, k5, k6, k7, k8⟩ := HC.out W hSw; clear hSw; (try dsimp only at hSw); go_simp; try with_reducible rfl)
          case' restuax4 => try simp only [Act.put, List.setIfInBounds_toArray, List.set_cons_zero, List.set_cons_succ]
          refine wpAnyH_take (i := 5) (oi := ⟨some 22, _, _, _, _, _⟩) (v := ?vuax5) rfl (by kernel_rfl) (by kernel_rfl) (by kernel_rfl) (fun _ _ _ h => h) (Or.inl ⟨by kernel_rfl, ?hyuax5⟩) (by assumption) ?restuax5
          case hyuax5 => (intro W hSw; obtain ⟨k1, k2, k3, k4, k5, k6, k7, k8⟩ := HC.out W hSw; clear hSw; (try dsimp only at hSw); go_simp; try with_reducible rfl)
          case' restuax5 => try simp only [Act.put, List.setIfInBounds_toArray, List.set_cons_zero, List.set_cons_succ]
          refine wpAnyH_take (i := 6) (oi := ⟨some 23, _, _, _, _, _⟩) (v := ?vuax6) rfl (by kernel_rfl) (by kernel_rfl) (by kernel_rfl) (fun _ _ _ h => h) (Or.inl ⟨by kernel_rfl, ?hyuax6⟩) (by assumption) ?restuax6
          case hyuax6 => (intro W hSw; obtain ⟨k1, k2, k3, k4, k5, k6, k7, k8⟩ := HC.out W hSw; clear hSw; (try dsimp only at hSw); go_simp; try with_reducible rfl)
          case' restuax6 => try simp only [Act.put, List.setIfInBounds_toArray, List.set_cons_zero, List.set_cons_succ]
          refine wpAnyH_ready (rs := [3]) (by kernel_rfl) (by simp) ?_
          refine AllReadyH.cons (o := ⟨some 20, _, _, _, _, _⟩) rfl (fun K hK => ?_) AllReadyH.nil
          go_simp
          go_at_call 22
          refine (Cabc.out _).mono ?_
          rintro e Wuax1 ⟨rfl, hbWuax1⟩
          have hSWuax1 := hS0.trans (hbWuax1.mono hS0.size)
          try clear hS0
          clear hbWuax1
          go_wp2_with fail
          refine hK.out _ _ hSWuax1 (fun hHeld => ?_)
          clear hK hHeld K
          try simp only [Act.put, List.setIfInBounds_toArray, List.set_cons_zero, List.set_cons_succ]
          refine wpAnyH_ready (rs := [7]) (by kernel_rfl) (by simp) ?_
          refine AllReadyH.cons (o := ⟨some 24, _, _, _, _, _⟩) rfl (fun K hK => ?_) AllReadyH.nil
          go_simp
          go_at_call 22
          refine (Cabd.out _).mono ?_
          rintro e Wuax2 ⟨rfl, hbWuax2⟩
          have hSWuax2 := hSWuax1.trans (hbWuax2.mono hSWuax1.size)
          try clear hSWuax1
          clear hbWuax2
          go_wp2_with fail
          refine hK.out _ _ hSWuax2 (fun hHeld => ?_)
          clear hK hHeld K
          try simp only [Act.put, List.setIfInBounds_toArray, List.set_cons_zero, List.set_cons_succ]
          refine wpAnyH_take (i := 8) (oi := ⟨some 25, _, _, _, _, _⟩) (v := ?vuax7) rfl (by kernel_rfl) (by kernel_rfl) (by kernel_rfl) (fun _ _ _ h => h) (Or.inl ⟨by kernel_rfl, ?hyuax7⟩) (by assumption) ?restuax7
          case hyuax7 => (intro W hSw; (try dsimp only at hSw); go_simp; try with_reducible rfl)
          case' restuax7 => try simp only [Act.put, List.setIfInBounds_toArray, List.set_cons_zero, List.set_cons_succ]
          refine wpAnyH_take (i := 9) (oi := ⟨some 26, _, _, _, _, _⟩) (v := ?vuax8) rfl (by kernel_rfl) (by kernel_rfl) (by kernel_rfl) (fun _ _ _ h => h) (Or.inl ⟨by kernel_rfl, ?hyuax8⟩) (by assumption) ?restuax8
          case hyuax8 => (intro W hSw; (try dsimp only at hSw); go_simp; try with_reducible rfl)
          case' restuax8 => try simp only [Act.put, List.setIfInBounds_toArray, List.set_cons_zero, List.set_cons_succ]
          refine wpAnyH_take (i := 10) (oi := ⟨some 27, _, _, _, _, _⟩) (v := ?vuax9) rfl (by kernel_rfl) (by kernel_rfl) (by kernel_rfl) (fun _ _ _ h => h) (Or.inl ⟨by kernel_rfl, ?hyuax9⟩) (by assumption) ?restuax9
          case hyuax9 => (intro W hSw; (try dsimp only at hSw); go_simp; try with_reducible rfl)
          case' restuax9 => try simp only [Act.put, List.setIfInBounds_toArray, List.set_cons_zero, List.set_cons_succ]
          refine wpAnyH_take (i := 11) (oi := ⟨some 28, _, _, _, _, _⟩) (v := ?vuax10) rfl (by kernel_rfl) (by kernel_rfl) (by kernel_rfl) (fun _ _ _ h => h) (Or.inl ⟨by kernel_rfl, ?hyuax10⟩) (by assumption) ?restuax10
          case hyuax10 => (intro W hSw; obtain ⟨k1, k2, k3, k4, k5, k6, k7, k8⟩ := HC.out W hSw; clear hSw; (try dsimp only at hSw); go_simp; try with_reducible rfl)
          case' restuax10 => try simp only [Act.put, List.setIfInBounds_toArray, List.set_cons_zero, List.set_cons_succ]
          refine wpAnyH_take (i := 12) (oi := ⟨some 29, _, _, _, _, _⟩) (v := ?vuax11) rfl (by kernel_rfl) (by kernel_rfl) (by kernel_rfl) (fun _ _ _ h => h) (Or.inl ⟨by kernel_rfl, ?hyuax11⟩) (by assumption) ?restuax11
          case hyuax11 => (intro W hSw; obtain ⟨k1, k2, k3, k4, k5, k6, k7, k8⟩ := HC.out W hSw; clear hSw; (try dsimp only at hSw); go_simp; try with_reducible rfl)
          case' restuax11 => try simp only [Act.put, List.setIfInBounds_toArray, List.set_cons_zero, List.set_cons_succ]
          refine wpAnyH_take (i := 13) (oi := ⟨some 30, _, _, _, _, _⟩) (v := ?vuax12) rfl (by kernel_rfl) (by kernel_rfl) (by kernel_rfl) (fun _ _ _ h => h) (Or.inl ⟨by kernel_rfl, ?hyuax12⟩) (by assumption) ?restuax12
          case hyuax12 => (intro W hSw; obtain ⟨k1, k2, k3, k4, k5, k6, k7, k8⟩ := HC.out W hSw; clear hSw; (try dsimp only at hSw); go_simp; try with_reducible rfl)
          case' restuax12 => try simp only [Act.put, List.setIfInBounds_toArray, List.set_cons_zero, List.set_cons_succ]
          refine wpAnyH_take (i := 15) (oi := ⟨some 32, _, _, _, _, _⟩) (v := ?vuax13) rfl (by kernel_rfl) (by kernel_rfl) (by kernel_rfl) (fun _ _ _ h => h) (Or.inl ⟨by kernel_rfl, ?hyuax13⟩) (by assumption) ?restuax13
          case hyuax13 => (intro W hSw; obtain ⟨k1, k2, k3, k4, k5, k6, k7, k8⟩ := HC.out W hSw; clear hSw; (try dsimp only at hSw); go_simp; try with_reducible rfl)
          case' restuax13 => try simp only [Act.put, List.setIfInBounds_toArray, List.set_cons_zero, List.set_cons_succ]
          refine wpAnyH_take (i := 16) (oi := ⟨some 33, _, _, _, _, _⟩) (v := ?vuax14) rfl (by kernel_rfl) (by kernel_rfl) (by kernel_rfl) (fun _ _ _ h => h) (Or.inl ⟨by kernel_rfl, ?hyuax14⟩) (by assumption) ?restuax14
          case hyuax14 => (intro W hSw; obtain ⟨k1, k2, k3, k4, k5, k6, k7, k8⟩ := HC.out W hSw; clear hSw; (try dsimp only at hSw); go_simp; try with_reducible rfl)
          case' restuax14 => try simp only [Act.put, List.setIfInBounds_toArray, List.set_cons_zero, List.set_cons_succ]
          refine wpAnyH_take (i := 17) (oi := ⟨some 34, _, _, _, _, _⟩) (v := ?vuax15) rfl (by kernel_rfl) (by kernel_rfl) (by kernel_rfl) (fun _ _ _ h => h) (Or.inl ⟨by kernel_rfl, ?hyuax15⟩) (by assumption) ?restuax15
          case hyuax15 => (intro W hSw; obtain ⟨k1, k2, k3, k4, k5, k6, k7, k8⟩ := HC.out W hSw; clear hSw; (try dsimp only at hSw); go_simp; try with_reducible rfl)
          case' restuax15 => try simp only [Act.put, List.setIfInBounds_toArray, List.set_cons_zero, List.set_cons_succ]
          refine wpAnyH_ready (rs := [14]) (by kernel_rfl) (by simp) ?_
          refine AllReadyH.cons (o := ⟨some 31, _, _, _, _, _⟩) rfl (fun K hK => ?_) AllReadyH.nil
          go_simp
          go_at_call 22
          refine (Ccda.out _).mono ?_
          rintro e Wuax3 ⟨rfl, hbWuax3⟩
          have hSWuax3 := hSWuax2.trans (hbWuax3.mono hSWuax2.size)
          try clear hSWuax2
          clear hbWuax3
          go_wp2_with fail
          refine hK.out _ _ hSWuax3 (fun hHeld => ?_)
          clear hK hHeld K
          try simp only [Act.put, List.setIfInBounds_toArray, List.set_cons_zero, List.set_cons_succ]
          refine wpAnyH_ready (rs := [18]) (by kernel_rfl) (by simp) ?_
          refine AllReadyH.cons (o := ⟨some 35, _, _, _, _, _⟩) rfl (fun K hK => ?_) AllReadyH.nil
          go_simp
          go_at_call 22
          refine (Ccdb.out _).mono ?_
          rintro e Wuax4 ⟨rfl, hbWuax4⟩
          have hSWuax4 := hSWuax3.trans (hbWuax4.mono hSWuax3.size)
          try clear hSWuax3
          clear hbWuax4
          go_wp2_with fail
          refine hK.out _ _ hSWuax4 (fun hHeld => ?_)
          clear hK hHeld K
          try simp only [Act.put, List.setIfInBounds_toArray, List.set_cons_zero, List.set_cons_succ]
          refine wpAnyH_take (i := 19) (oi := ⟨some 36, _, _, _, _, _⟩) (v := ?vuax16) rfl (by kernel_rfl) (by kernel_rfl) (by kernel_rfl) (fun _ _ _ h => h) (Or.inl ⟨by kernel_rfl, ?hyuax16⟩) (by assumption) ?restuax16
          case hyuax16 => (intro W hSw; (try dsimp only at hSw); go_simp; try with_reducible rfl)
          case' restuax16 => try simp only [Act.put, List.setIfInBounds_toArray, List.set_cons_zero, List.set_cons_succ]
          refine wpAnyH_take (i := 20) (oi := ⟨some 37, _, _, _, _, _⟩) (v := ?vuax17) rfl (by kernel_rfl) (by kernel_rfl) (by kernel_rfl) (fun _ _ _ h => h) (Or.inl ⟨by kernel_rfl, ?hyuax17⟩) (by assumption) ?restuax17
          case hyuax17 => (intro W hSw; (try dsimp only at hSw); go_simp; try with_reducible rfl)
          case' restuax17 => try simp only [Act.put, List.setIfInBounds_toArray, List.set_cons_zero, List.set_cons_succ]
          refine wpAnyH_take (i := 21) (oi := ⟨some 38, _, _, _, _, _⟩) (v := ?vuax18) rfl (by kernel_rfl) (by kernel_rfl) (by kernel_rfl) (fun _ _ _ h => h) (Or.inl ⟨by kernel_rfl, ?hyuax18⟩) (by assumption) ?restuax18
          case hyuax18 => (intro W hSw; (try dsimp only at hSw); go_simp; try with_reducible rfl)
          case' restuax18 => try simp only [Act.put, List.setIfInBounds_toArray, List.set_cons_zero, List.set_cons_succ]
          refine wpAnyH_take (i := 22) (oi := ⟨some 9, _, _, _, _, _⟩) (v := ?vuax19) rfl (by kernel_rfl) (by kernel_rfl) (by kernel_rfl) (fun _ _ _ h => h) (Or.inl ⟨by kernel_rfl, ?hyuax19⟩) (by assumption) ?restuax19
          case hyuax19 => (intro W hSw; (try dsimp only at hSw); go_simp; try with_reducible rfl)
          case' restuax19 => try simp only [Act.put, List.setIfInBounds_toArray, List.set_cons_zero, List.set_cons_succ]
          refine wpAnyH_done (by kernel_rfl) ?_ _
          go_wp2
          go_ret
          exact RetV.int (by rw [HR.out]; rfl) (hd0.trans (hSWuax4.mono hd0.size))
        · skip
          refine wpAnyH_take (i := 0) (oi := ⟨some 17, _, _, _, _, _⟩) (v := ?vuay1) rfl (by kernel_rfl) (by kernel_rfl) (by kernel_rfl) (fun _ _ _ h => h) (Or.inl ⟨by kernel_rfl, ?hyuay1⟩) (by assumption) ?restuay1
          case hyuay1 => (intro W hSw; obtain ⟨k1, k2, k3, k4, k5, k6, k7, k8⟩ := HC.out W hSw; clear hSw; (try dsimp only at hSw); go_simp; try with_reducible rfl)
          case' restuay1 => try simp only [Act.put, List.setIfInBounds_toArray, List.set_cons_zero, List.set_cons_succ]
          refine wpAnyH_take (i := 1) (oi := ⟨some 18, _, _, _, _, _⟩) (v := ?vuay2) rfl (by kernel_rfl) (by kernel_rfl) (by kernel_rfl) (fun _ _ _ h => h) (Or.inl ⟨by kernel_rfl, ?hyuay2⟩) (by assumption) ?restuay2
          case hyuay2 => (intro W hSw; obtain ⟨k1, k2, k3, k4, k5, k6, k7, k8⟩ := HC.out W hSw; clear hSw; (try dsimp only at hSw); go_simp; try with_reducible rfl)
          case' restuay2 => try simp only [Act.put, List.setIfInBounds_toArray, List.set_cons_zero, List.set_cons_succ]
          refine wpAnyH_take (i := 2) (oi := ⟨some 19, _, _, _, _, _⟩) (v := ?vuay3) rfl (by kernel_rfl) (by kernel_rfl) (by kernel_rfl) (fun _ _ _ h => h) (Or.inl ⟨by kernel_rfl, ?hyuay3⟩) (by assumption) ?restuay3
          case hyuay3 => (intro W hSw; obtain ⟨k1, k2, k3, k4, k5, k6, k7, k8⟩ := HC.out W hSw; clear hSw; (try dsimp only at hSw); go_simp; try with_reducible rfl)
          case' restuay3 => try simp only [Act.put, List.setIfInBounds_toArray, List.set_cons_zero, List.set_cons_succ]
          refine wpAnyH_take (i := 4) (oi := ⟨some 21, _, _, _, _, _⟩) (v := ?vuay4) rfl (by kernel_rfl) (by kernel_rfl) (by kernel_rfl) (fun _ _ _ h => h) (Or.inl ⟨by kernel_rfl, ?hyuay4⟩) (by assumption) ?restuay4
          case hyuay4 => (intro W hSw; obtain ⟨k1, k2, k3, k4, k5, k6, k7, k8⟩ := HC.out W hSw; clear hSw; (try dsimp only at hSw); go_simp; try with_reducible rfl)
          case' restuay4 => try simp only [Act.put, List.setIfInBounds_toArray, List.set_cons_zero, List.set_cons_succ]
          refine wpAnyH_take (i := 5) (oi := ⟨some 22, _, _, _, _, _⟩) (v := ?vuay5) rfl (by kernel_rfl) (by kernel_rfl) (by kernel_rfl) (fun _ _ _ h => h) (Or.inl ⟨by kernel_rfl, ?hyuay5⟩) (by assumption) ?restuay5
          case hyuay5 => (intro W hSw; obtain ⟨k1, k2, k3, k4, k5, k6, k7, k8⟩ := HC.out W hSw; clear hSw; (try dsimp only at hSw); go_simp; try with_reducible rfl)
          case' restuay5 => try simp only [Act.put, List.setIfInBounds_toArray, List.set_cons_zero, List.set_cons_succ]
          refine wpAnyH_take (i := 6) (oi := ⟨some 23, _, _, _, _, _⟩) (v := ?vuay6) rfl (by kernel_rfl) (by kernel_rfl) (by kernel_rfl) (fun _ _ _ h => h) (Or.inl ⟨by kernel_rfl, ?hyuay6⟩) (by assumption) ?restuay6
          case hyuay6 => (intro W hSw; obtain ⟨k1, k2, k3, k4, k5, k6, k7, k8⟩ := HC.out W hSw; clear hSw; (try dsimp only at hSw); go_simp; try with_reducible rfl)
          case' restuay6 => try simp only [Act.put, List.setIfInBounds_toArray, List.set_cons_zero, List.set_cons_succ]
          refine wpAnyH_ready (rs := [3]) (by kernel_rfl) (by simp) ?_
          refine AllReadyH.cons (o := ⟨some 20, _, _, _, _, _⟩) rfl (fun K hK => ?_) AllReadyH.nil
          go_simp
          go_at_call 22
          refine (Cabc.out _).mono ?_
          rintro e Wuay1 ⟨rfl, hbWuay1⟩
          have hSWuay1 := hS0.trans (hbWuay1.mono hS0.size)
          try clear hS0
          clear hbWuay1
          go_wp2_with fail
          refine hK.out _ _ hSWuay1 (fun hHeld => ?_)
          clear hK hHeld K
          try simp only [Act.put, List.setIfInBounds_toArray, List.set_cons_zero, List.set_cons_succ]
          refine wpAnyH_ready (rs := [7]) (by kernel_rfl) (by simp) ?_
          refine AllReadyH.cons (o := ⟨some 24, _, _, _, _, _⟩) rfl (fun K hK => ?_) AllReadyH.nil
          go_simp
          go_at_call 22
          refine (Cabd.out _).mono ?_
          rintro e Wuay2 ⟨rfl, hbWuay2⟩
          have hSWuay2 := hSWuay1.trans (hbWuay2.mono hSWuay1.size)
          try clear hSWuay1
          clear hbWuay2
          go_wp2_with fail
          refine hK.out _ _ hSWuay2 (fun hHeld => ?_)
          clear hK hHeld K
          try simp only [Act.put, List.setIfInBounds_toArray, List.set_cons_zero, List.set_cons_succ]
          refine wpAnyH_take (i := 8) (oi := ⟨some 25, _, _, _, _, _⟩) (v := ?vuay7) rfl (by kernel_rfl) (by kernel_rfl) (by kernel_rfl) (fun _ _ _ h => h) (Or.inl ⟨by kernel_rfl, ?hyuay7⟩) (by assumption) ?restuay7
          case hyuay7 => (intro W hSw; (try dsimp only at hSw); go_simp; try with_reducible rfl)
          case' restuay7 => try simp only [Act.put, List.setIfInBounds_toArray, List.set_cons_zero, List.set_cons_succ]
          refine wpAnyH_take (i := 9) (oi := ⟨some 26, _, _, _, _, _⟩) (v := ?vuay8) rfl (by kernel_rfl) (by kernel_rfl) (by kernel_rfl) (fun _ _ _ h => h) (Or.inl ⟨by kernel_rfl, ?hyuay8⟩) (by assumption) ?restuay8
          case hyuay8 => (intro W hSw; (try dsimp only at hSw); go_simp; try with_reducible rfl)
          case' restuay8 => try simp only [Act.put, List.setIfInBounds_toArray, List.set_cons_zero, List.set_cons_succ]
          refine wpAnyH_take (i := 10) (oi := ⟨some 27, _, _, _, _, _⟩) (v := ?vuay9) rfl (by kernel_rfl) (by kernel_rfl) (by kernel_rfl) (fun _ _ _ h => h) (Or.inl ⟨by kernel_rfl, ?hyuay9⟩) (by assumption) ?restuay9
          case hyuay9 => (intro W hSw; (try dsimp only at hSw); go_simp; try with_reducible rfl)
          case' restuay9 => try simp only [Act.put, List.setIfInBounds_toArray, List.set_cons_zero, List.set_cons_succ]
          refine wpAnyH_take (i := 11) (oi := ⟨some 28, _, _, _, _, _⟩) (v := ?vuay10) rfl (by kernel_rfl) (by kernel_rfl) (by kernel_rfl) (fun _ _ _ h => h) (Or.inl ⟨by kernel_rfl, ?hyuay10⟩) (by assumption) ?restuay10
          case hyuay10 => (intro W hSw; obtain ⟨k1, k2, k3, k4, k5, k6, k7, k8⟩ := HC.out W hSw; clear hSw; (try dsimp only at hSw); go_simp; try with_reducible rfl)
          case' restuay10 => try simp only [Act.put, List.setIfInBounds_toArray, List.set_cons_zero, List.set_cons_succ]
          refine wpAnyH_take (i := 12) (oi := ⟨some 29, _, _, _, _, _⟩) (v := ?vuay11) rfl (by kernel_rfl) (by kernel_rfl) (by kernel_rfl) (fun _ _ _ h => h) (Or.inl ⟨by kernel_rfl, ?hyuay11⟩) (by assumption) ?restuay11
          case hyuay11 => (intro W hSw; obtain ⟨k1, k2, k3, k4, k5, k6, k7, k8⟩ := HC.out W hSw; clear hSw; (try dsimp only at hSw); go_simp; try with_reducible rfl)
          case' restuay11 => try simp only [Act.put, List.setIfInBounds_toArray, List.set_cons_zero, List.set_cons_succ]
          refine wpAnyH_take (i := 13) (oi := ⟨some 30, _, _, _, _, _⟩) (v := ?vuay12) rfl (by kernel_rfl) (by kernel_rfl) (by kernel_rfl) (fun _ _ _ h => h) (Or.inl ⟨by kernel_rfl, ?hyuay12⟩) (by assumption) ?restuay12
          case hyuay12 => (intro W hSw; obtain ⟨k1, k2, k3, k4, k5, k6, k7, k8⟩ := HC.out W hSw; clear hSw; (try dsimp only at hSw); go_simp; try with_reducible rfl)
          case' restuay12 => try simp only [Act.put, List.setIfInBounds_toArray, List.set_cons_zero, List.set_cons_succ]
          refine wpAnyH_take (i := 15) (oi := ⟨some 32, _, _, _, _, _⟩) (v := ?vuay13) rfl (by kernel_rfl) (by kernel_rfl) (by kernel_rfl) (fun _ _ _ h => h) (Or.inl ⟨by kernel_rfl, ?hyuay13⟩) (by assumption) ?restuay13
          case hyuay13 => (intro W hSw; obtain ⟨k1, k2, k3, k4, k5, k6, k7, k8⟩ := HC.out W hSw; clear hSw; (try dsimp only at hSw); go_simp; try with_reducible rfl)
          case' restuay13 => try simp only [Act.put, List.setIfInBounds_toArray, List.set_cons_zero, List.set_cons_succ]
          refine wpAnyH_take (i := 16) (oi := ⟨some 33, _, _, _, _, _⟩) (v := ?vuay14) rfl (by kernel_rfl) (by kernel_rfl) (by kernel_rfl) (fun _ _ _ h => h) (Or.inl ⟨by kernel_rfl, ?hyuay14⟩) (by assumption) ?restuay14
          case hyuay14 => (intro W hSw; obtain ⟨k1, k2, k3, k4, k5, k6, k7, k8⟩ := HC.out W hSw; clear hSw; (try dsimp only at hSw); go_simp; try with_reducible rfl)
          case' restuay14 => try simp only [Act.put, List.setIfInBounds_toArray, List.set_cons_zero, List.set_cons_succ]
          refine wpAnyH_take (i := 17) (oi := ⟨some 34, _, _, _, _, _⟩) (v := ?vuay15) rfl (by kernel_rfl) (by kernel_rfl) (by kernel_rfl) (fun _ _ _ h => h) (Or.inl ⟨by kernel_rfl, ?hyuay15⟩) (by assumption) ?restuay15
          case hyuay15 => (intro W hSw; obtain ⟨k1, k2, k3, k4, k5, k6, k7, k8⟩ := HC.out W hSw; clear hSw; (try dsimp only at hSw); go_simp; try with_reducible rfl)
          case' restuay15 => try simp only [Act.put, List.setIfInBounds_toArray, List.set_cons_zero, List.set_cons_succ]
          refine wpAnyH_ready (rs := [14]) (by kernel_rfl) (by simp) ?_
          refine AllReadyH.cons (o := ⟨some 31, _, _, _, _, _⟩) rfl (fun K hK => ?_) AllReadyH.nil
          go_simp
          go_at_call 22
          refine (Ccda.out _).mono ?_
          rintro e Wuay3 ⟨rfl, hbWuay3⟩
          have hSWuay3 := hSWuay2.trans (hbWuay3.mono hSWuay2.size)
          try clear hSWuay2
          clear hbWuay3
          go_wp2_with fail
          refine hK.out _ _ hSWuay3 (fun hHeld => ?_)
          clear hK hHeld K
          try simp only [Act.put, List.setIfInBounds_toArray, List.set_cons_zero, List.set_cons_succ]
          refine wpAnyH_ready (rs := [18]) (by kernel_rfl) (by simp) ?_
          refine AllReadyH.cons (o := ⟨some 35, _, _, _, _, _⟩) rfl (fun K hK => ?_) AllReadyH.nil
          go_simp
          go_at_call 22
          refine (Ccdb.out _).mono ?_
          rintro e Wuay4 ⟨rfl, hbWuay4⟩
          have hSWuay4 := hSWuay3.trans (hbWuay4.mono hSWuay3.size)
          try clear hSWuay3
          clear hbWuay4
          go_wp2_with fail
          refine hK.out _ _ hSWuay4 (fun hHeld => ?_)
          clear hK hHeld K
          try simp only [Act.put, List.setIfInBounds_toArray, List.set_cons_zero, List.set_cons_succ]
          refine wpAnyH_take (i := 19) (oi := ⟨some 36, _, _, _, _, _⟩) (v := ?vuay16) rfl (by kernel_rfl) (by kernel_rfl) (by kernel_rfl) (fun _ _ _ h => h) (Or.inl ⟨by kernel_rfl, ?hyuay16⟩) (by assumption) ?restuay16
          case hyuay16 => (intro W hSw; (try dsimp only at hSw); go_simp; try with_reducible rfl)
          case' restuay16 => try simp only [Act.put, List.setIfInBounds_toArray, List.set_cons_zero, List.set_cons_succ]
          refine wpAnyH_take (i := 20) (oi := ⟨some 37, _, _, _, _, _⟩) (v := ?vuay17) rfl (by kernel_rfl) (by kernel_rfl) (by kernel_rfl) (fun _ _ _ h => h) (Or.inl ⟨by kernel_rfl, ?hyuay17⟩) (by assumption) ?restuay17
          case hyuay17 => (intro W hSw; (try dsimp only at hSw); go_simp; try with_reducible rfl)
          case' restuay17 => try simp only [Act.put, List.setIfInBounds_toArray, List.set_cons_zero, List.set_cons_succ]
          refine wpAnyH_take (i := 21) (oi := ⟨some 38, _, _, _, _, _⟩) (v := ?vuay18) rfl (by kernel_rfl) (by kernel_rfl) (by kernel_rfl) (fun _ _ _ h => h) (Or.inl ⟨by kernel_rfl, ?hyuay18⟩) (by assumption) ?restuay18
          case hyuay18 => (intro W hSw; (try dsimp only at hSw); go_simp; try with_reducible rfl)
          case' restuay18 => try simp only [Act.put, List.setIfInBounds_toArray, List.set_cons_zero, List.set_cons_succ]
          refine wpAnyH_take (i := 22) (oi := ⟨some 9, _, _, _, _, _⟩) (v := ?vuay19) rfl (by kernel_rfl) (by kernel_rfl) (by kernel_rfl) (fun _ _ _ h => h) (Or.inl ⟨by kernel_rfl, ?hyuay19⟩) (by assumption) ?restuay19
          case hyuay19 => (intro W hSw; (try dsimp only at hSw); go_simp; try with_reducible rfl)
          case' restuay19 => try simp only [Act.put, List.setIfInBounds_toArray, List.set_cons_zero, List.set_cons_succ]
          refine wpAnyH_done (by kernel_rfl) ?_ _
          go_wp2
          go_ret
          exact RetV.int (by rw [HR.out]; rfl) (hd0.trans (hSWuay4.mono hd0.size))
      · have d5 : decide (s1 * s2 ≤ 0) = false := decide_eq_false e5
        rw [d5] at HR
        clear e5
        have w12' := w12.out
        have w34' := w34.out
        clear w12 w34
        refine wp_region_held_drew (S := fun W : World => Below w3.drew.heap.size w3.drew W) (by kernel_rfl) (Below.refl _ _) (fun hHeld => ?_)
        clear hHeld
        have hd0 : Below w.heap.size w w3.drew := hw3.drew
        have HC : Hid (∀ W, Below w3.drew.heap.size w3.drew W → W.cell? ⟨w.heap.size, 0, none⟩ = some (.int .i64 a1) ∧ W.cell? ⟨w.heap.size, 1, none⟩ = some (.int .i64 a2) ∧ W.cell? ⟨w.heap.size + 1, 0, none⟩ = some (.int .i64 b1) ∧ W.cell? ⟨w.heap.size + 1, 1, none⟩ = some (.int .i64 b2) ∧ W.cell? ⟨w.heap.size + 1 + 1, 0, none⟩ = some (.int .i64 c1) ∧ W.cell? ⟨w.heap.size + 1 + 1, 1, none⟩ = some (.int .i64 c2) ∧ W.cell? ⟨w.heap.size + 1 + 1 + 1, 0, none⟩ = some (.int .i64 d1) ∧ W.cell? ⟨w.heap.size + 1 + 1 + 1, 1, none⟩ = some (.int .i64 d2)) := Lib.hid (fun W hb => box4' w0' HW0.out (hb4.drew.trans (hb.mono hb4.drew.size)))
        clear hb4 hw3 k1 k2 k3 k4 k5 k6 k7 k8 HS
        generalize w3.drew = w0 at *
        have hS0 : (fun W : World => Below w0.heap.size w0 W) w0 := Below.refl _ _
        refine wpAnyH_take (i := 0) (oi := ⟨some 17, _, _, _, _, _⟩) (v := ?vub1) rfl (by kernel_rfl) (by kernel_rfl) (by kernel_rfl) (fun _ _ _ h => h) (Or.inl ⟨by kernel_rfl, ?hyub1⟩) (by assumption) ?restub1
        case hyub1 => (intro W hSw; obtain ⟨k1, k2, k3, k4, k5, k6, k7, k8⟩ := HC.out W hSw; clear hSw; (try dsimp only at hSw); go_simp; try with_reducible rfl)
        case' restub1 => try simp only [Act.put, List.setIfInBounds_toArray, List.set_cons_zero, List.set_cons_succ]
        refine wpAnyH_take (i := 1) (oi := ⟨some 18, _, _, _, _, _⟩) (v := ?vub2) rfl (by kernel_rfl) (by kernel_rfl) (by kernel_rfl) (fun _ _ _ h => h) (Or.inl ⟨by kernel_rfl, ?hyub2⟩) (by assumption) ?restub2
        case hyub2 => (intro W hSw; obtain ⟨k1, k2, k3, k4, k5, k6, k7, k8⟩ := HC.out W hSw; clear hSw; (try dsimp only at hSw); go_simp; try with_reducible rfl)
        case' restub2 => try simp only [Act.put, List.setIfInBounds_toArray, List.set_cons_zero, List.set_cons_succ]
        refine wpAnyH_take (i := 2) (oi := ⟨some 19, _, _, _, _, _⟩) (v := ?vub3) rfl (by kernel_rfl) (by kernel_rfl) (by kernel_rfl) (fun _ _ _ h => h) (Or.inl ⟨by kernel_rfl, ?hyub3⟩) (by assumption) ?restub3
        case hyub3 => (intro W hSw; obtain ⟨k1, k2, k3, k4, k5, k6, k7, k8⟩ := HC.out W hSw; clear hSw; (try dsimp only at hSw); go_simp; try with_reducible rfl)
        case' restub3 => try simp only [Act.put, List.setIfInBounds_toArray, List.set_cons_zero, List.set_cons_succ]
        refine wpAnyH_take (i := 4) (oi := ⟨some 21, _, _, _, _, _⟩) (v := ?vub4) rfl (by kernel_rfl) (by kernel_rfl) (by kernel_rfl) (fun _ _ _ h => h) (Or.inl ⟨by kernel_rfl, ?hyub4⟩) (by assumption) ?restub4
        case hyub4 => (intro W hSw; obtain ⟨k1, k2, k3, k4, k5, k6, k7, k8⟩ := HC.out W hSw; clear hSw; (try dsimp only at hSw); go_simp; try with_reducible rfl)
        case' restub4 => try simp only [Act.put, List.setIfInBounds_toArray, List.set_cons_zero, List.set_cons_succ]
        refine wpAnyH_take (i := 5) (oi := ⟨some 22, _, _, _, _, _⟩) (v := ?vub5) rfl (by kernel_rfl) (by kernel_rfl) (by kernel_rfl) (fun _ _ _ h => h) (Or.inl ⟨by kernel_rfl, ?hyub5⟩) (by assumption) ?restub5
        case hyub5 => (intro W hSw; obtain ⟨k1, k2, k3, k4, k5, k6, k7, k8⟩ := HC.out W hSw; clear hSw; (try dsimp only at hSw); go_simp; try with_reducible rfl)
        case' restub5 => try simp only [Act.put, List.setIfInBounds_toArray, List.set_cons_zero, List.set_cons_succ]
        refine wpAnyH_take (i := 6) (oi := ⟨some 23, _, _, _, _, _⟩) (v := ?vub6) rfl (by kernel_rfl) (by kernel_rfl) (by kernel_rfl) (fun _ _ _ h => h) (Or.inl ⟨by kernel_rfl, ?hyub6⟩) (by assumption) ?restub6
        case hyub6 => (intro W hSw; obtain ⟨k1, k2, k3, k4, k5, k6, k7, k8⟩ := HC.out W hSw; clear hSw; (try dsimp only at hSw); go_simp; try with_reducible rfl)
        case' restub6 => try simp only [Act.put, List.setIfInBounds_toArray, List.set_cons_zero, List.set_cons_succ]
        refine wpAnyH_ready (rs := [3]) (by kernel_rfl) (by simp) ?_
        refine AllReadyH.cons (o := ⟨some 20, _, _, _, _, _⟩) rfl (fun K hK => ?_) AllReadyH.nil
        go_simp
        go_at_call 22
        refine (Cabc.out _).mono ?_
        rintro e Wub1 ⟨rfl, hbWub1⟩
        have hSWub1 := hS0.trans (hbWub1.mono hS0.size)
        try clear hS0
        clear hbWub1
        go_wp2_with fail
        refine hK.out _ _ hSWub1 (fun hHeld => ?_)
        clear hK hHeld K
        try simp only [Act.put, List.setIfInBounds_toArray, List.set_cons_zero, List.set_cons_succ]
        refine wpAnyH_ready (rs := [7]) (by kernel_rfl) (by simp) ?_
        refine AllReadyH.cons (o := ⟨some 24, _, _, _, _, _⟩) rfl (fun K hK => ?_) AllReadyH.nil
        go_simp
        go_at_call 22
        refine (Cabd.out _).mono ?_
        rintro e Wub2 ⟨rfl, hbWub2⟩
        have hSWub2 := hSWub1.trans (hbWub2.mono hSWub1.size)
        try clear hSWub1
        clear hbWub2
        go_wp2_with fail
        refine hK.out _ _ hSWub2 (fun hHeld => ?_)
        clear hK hHeld K
        try simp only [Act.put, List.setIfInBounds_toArray, List.set_cons_zero, List.set_cons_succ]
        refine wpAnyH_take (i := 8) (oi := ⟨some 25, _, _, _, _, _⟩) (v := ?vub7) rfl (by kernel_rfl) (by kernel_rfl) (by kernel_rfl) (fun _ _ _ h => h) (Or.inl ⟨by kernel_rfl, ?hyub7⟩) (by assumption) ?restub7
        case hyub7 => (intro W hSw; (try dsimp only at hSw); go_simp; try with_reducible rfl)
        case' restub7 => try simp only [Act.put, List.setIfInBounds_toArray, List.set_cons_zero, List.set_cons_succ]
        refine wpAnyH_take (i := 9) (oi := ⟨some 26, _, _, _, _, _⟩) (v := ?vub8) rfl (by kernel_rfl) (by kernel_rfl) (by kernel_rfl) (fun _ _ _ h => h) (Or.inl ⟨by kernel_rfl, ?hyub8⟩) (by assumption) ?restub8
        case hyub8 => (intro W hSw; (try dsimp only at hSw); go_simp; try with_reducible rfl)
        case' restub8 => try simp only [Act.put, List.setIfInBounds_toArray, List.set_cons_zero, List.set_cons_succ]
        refine wpAnyH_take (i := 10) (oi := ⟨some 27, _, _, _, _, _⟩) (v := ?vub9) rfl (by kernel_rfl) (by kernel_rfl) (by kernel_rfl) (fun _ _ _ h => h) (Or.inl ⟨by kernel_rfl, ?hyub9⟩) (by assumption) ?restub9
        case hyub9 => (intro W hSw; (try dsimp only at hSw); go_simp; try with_reducible rfl)
        case' restub9 => try simp only [Act.put, List.setIfInBounds_toArray, List.set_cons_zero, List.set_cons_succ]
        refine wpAnyH_take (i := 11) (oi := ⟨some 28, _, _, _, _, _⟩) (v := undef) rfl (by kernel_rfl) (by kernel_rfl) (by kernel_rfl) (fun _ _ _ h => h) (Or.inr ⟨by kernel_rfl, rfl⟩) (by assumption) ?restub10
        case' restub10 => try simp only [Act.put, List.setIfInBounds_toArray, List.set_cons_zero, List.set_cons_succ]
        refine wpAnyH_take (i := 12) (oi := ⟨some 29, _, _, _, _, _⟩) (v := undef) rfl (by kernel_rfl) (by kernel_rfl) (by kernel_rfl) (fun _ _ _ h => h) (Or.inr ⟨by kernel_rfl, rfl⟩) (by assumption) ?restub11
        case' restub11 => try simp only [Act.put, List.setIfInBounds_toArray, List.set_cons_zero, List.set_cons_succ]
        refine wpAnyH_take (i := 13) (oi := ⟨some 30, _, _, _, _, _⟩) (v := undef) rfl (by kernel_rfl) (by kernel_rfl) (by kernel_rfl) (fun _ _ _ h => h) (Or.inr ⟨by kernel_rfl, rfl⟩) (by assumption) ?restub12
        case' restub12 => try simp only [Act.put, List.setIfInBounds_toArray, List.set_cons_zero, List.set_cons_succ]
        refine wpAnyH_take (i := 14) (oi := ⟨some 31, _, _, _, _, _⟩) (v := undef) rfl (by kernel_rfl) (by kernel_rfl) (by kernel_rfl) (fun _ _ _ h => h) (Or.inr ⟨by kernel_rfl, rfl⟩) (by assumption) ?restub13
        case' restub13 => try simp only [Act.put, List.setIfInBounds_toArray, List.set_cons_zero, List.set_cons_succ]
        refine wpAnyH_take (i := 15) (oi := ⟨some 32, _, _, _, _, _⟩) (v := undef) rfl (by kernel_rfl) (by kernel_rfl) (by kernel_rfl) (fun _ _ _ h => h) (Or.inr ⟨by kernel_rfl, rfl⟩) (by assumption) ?restub14
        case' restub14 => try simp only [Act.put, List.setIfInBounds_toArray, List.set_cons_zero, List.set_cons_succ]
        refine wpAnyH_take (i := 16) (oi := ⟨some 33, _, _, _, _, _⟩) (v := undef) rfl (by kernel_rfl) (by kernel_rfl) (by kernel_rfl) (fun _ _ _ h => h) (Or.inr ⟨by kernel_rfl, rfl⟩) (by assumption) ?restub15
        case' restub15 => try simp only [Act.put, List.setIfInBounds_toArray, List.set_cons_zero, List.set_cons_succ]
        refine wpAnyH_take (i := 17) (oi := ⟨some 34, _, _, _, _, _⟩) (v := undef) rfl (by kernel_rfl) (by kernel_rfl) (by kernel_rfl) (fun _ _ _ h => h) (Or.inr ⟨by kernel_rfl, rfl⟩) (by assumption) ?restub16
        case' restub16 => try simp only [Act.put, List.setIfInBounds_toArray, List.set_cons_zero, List.set_cons_succ]
        refine wpAnyH_take (i := 18) (oi := ⟨some 35, _, _, _, _, _⟩) (v := undef) rfl (by kernel_rfl) (by kernel_rfl) (by kernel_rfl) (fun _ _ _ h => h) (Or.inr ⟨by kernel_rfl, rfl⟩) (by assumption) ?restub17
        case' restub17 => try simp only [Act.put, List.setIfInBounds_toArray, List.set_cons_zero, List.set_cons_succ]
        refine wpAnyH_take (i := 19) (oi := ⟨some 36, _, _, _, _, _⟩) (v := undef) rfl (by kernel_rfl) (by kernel_rfl) (by kernel_rfl) (fun _ _ _ h => h) (Or.inr ⟨by kernel_rfl, rfl⟩) (by assumption) ?restub18
        case' restub18 => try simp only [Act.put, List.setIfInBounds_toArray, List.set_cons_zero, List.set_cons_succ]
        refine wpAnyH_take (i := 20) (oi := ⟨some 37, _, _, _, _, _⟩) (v := undef) rfl (by kernel_rfl) (by kernel_rfl) (by kernel_rfl) (fun _ _ _ h => h) (Or.inr ⟨by kernel_rfl, rfl⟩) (by assumption) ?restub19
        case' restub19 => try simp only [Act.put, List.setIfInBounds_toArray, List.set_cons_zero, List.set_cons_succ]
        refine wpAnyH_take (i := 21) (oi := ⟨some 38, _, _, _, _, _⟩) (v := ?vub20) rfl (by kernel_rfl) (by kernel_rfl) (by kernel_rfl) (fun _ _ _ h => h) (Or.inl ⟨by kernel_rfl, ?hyub20⟩) (by assumption) ?restub20
        case hyub20 => (intro W hSw; (try dsimp only at hSw); go_simp; try with_reducible rfl)
        case' restub20 => try simp only [Act.put, List.setIfInBounds_toArray, List.set_cons_zero, List.set_cons_succ]
        refine wpAnyH_take (i := 22) (oi := ⟨some 9, _, _, _, _, _⟩) (v := ?vub21) rfl (by kernel_rfl) (by kernel_rfl) (by kernel_rfl) (fun _ _ _ h => h) (Or.inl ⟨by kernel_rfl, ?hyub21⟩) (by assumption) ?restub21
        case hyub21 => (intro W hSw; (try dsimp only at hSw); go_simp; try with_reducible rfl)
        case' restub21 => try simp only [Act.put, List.setIfInBounds_toArray, List.set_cons_zero, List.set_cons_succ]
        refine wpAnyH_done (by kernel_rfl) ?_ _
        go_wp2
        go_ret
        exact RetV.int (by rw [HR.out]; rfl) (hd0.trans (hSWub2.mono hd0.size))
  have HR := Lib.hid (HR.out.trans (if_neg (fun h => e3 h.1)))
  have d3 : decide (s1 = 0) = false := decide_eq_false e3
  have d3' : (s1 == 0) = false := by simp [e3]
  clear e3
  go_enter Try.func45, Try.ntmps45
  go_wp2_with fail
  refine (CN.out _ _ (by simp) _).mono ?_
  rintro e w1 ⟨rfl, hb1⟩
  have hb2 := below_lit hb1
  clear hb1
  obtain ⟨k1, k2, k3, k4, k5, k6, k7, k8, hw1⟩ := box4 hb2
  obtain ⟨w0', hw0'⟩ : ∃ w0', w0' = ((((w.alloc (.cells #[.int .i64 a1, .int .i64 a2] 32)).alloc (.cells #[.int .i64 b1, .int .i64 b2] 32)).alloc (.cells #[.int .i64 c1, .int .i64 c2] 32)).alloc (.cells #[.int .i64 d1, .int .i64 d2] 32)) := ⟨_, rfl⟩
  rw [← hw0'] at hb2
  have HW0 := Lib.hid hw0'
  clear hw0'
  go_wp2_with fail
  refine (Cabc.out _).mono ?_
  rintro e w2 ⟨rfl, hb1⟩
  clear k1 k2 k3 k4 k5 k6 k7 k8
  have hb3 := hb2.trans (hb1.mono hb2.size)
  have hw2 := hw1.trans (hb1.mono hw1.size)
  clear hb1
  obtain ⟨k1, k2, k3, k4, k5, k6, k7, k8⟩ := box4' w0' HW0.out hb3
  clear hb2 hw1
  go_upto_region 4 with fail
  have HS : Hid (((w2).drew).heap.size = w2.heap.size) := Lib.hid rfl
  by_cases e5 : s1 * s2 ≤ 0
  · have d5 : decide (s1 * s2 ≤ 0) = true := decide_eq_true e5
    rw [d5] at HR
    clear e5
    have w12' := w12.out
    have w34' := w34.out
    clear w12 w34
    refine wp_region_held_drew (S := fun W : World => Below w2.drew.heap.size w2.drew W) (by kernel_rfl) (Below.refl _ _) (fun hHeld => ?_)
    clear hHeld
    have hd0 : Below w.heap.size w w2.drew := hw2.drew
    have HC : Hid (∀ W, Below w2.drew.heap.size w2.drew W → W.cell? ⟨w.heap.size, 0, none⟩ = some (.int .i64 a1) ∧ W.cell? ⟨w.heap.size, 1, none⟩ = some (.int .i64 a2) ∧ W.cell? ⟨w.heap.size + 1, 0, none⟩ = some (.int .i64 b1) ∧ W.cell? ⟨w.heap.size + 1, 1, none⟩ = some (.int .i64 b2) ∧ W.cell? ⟨w.heap.size + 1 + 1, 0, none⟩ = some (.int .i64 c1) ∧ W.cell? ⟨w.heap.size + 1 + 1, 1, none⟩ = some (.int .i64 c2) ∧ W.cell? ⟨w.heap.size + 1 + 1 + 1, 0, none⟩ = some (.int .i64 d1) ∧ W.cell? ⟨w.heap.size + 1 + 1 + 1, 1, none⟩ = some (.int .i64 d2)) := Lib.hid (fun W hb => box4' w0' HW0.out (hb3.drew.trans (hb.mono hb3.drew.size)))
    clear hb3 hw2 k1 k2 k3 k4 k5 k6 k7 k8 HS
    generalize w2.drew = w0 at *
    have hS0 : (fun W : World => Below w0.heap.size w0 W) w0 := Below.refl _ _
    obtain ⟨z, hz⟩ : ∃ z, decide (s3 * s4 ≤ 0) = z := ⟨_, rfl⟩
    rw [hz] at HR
    cases z
    · skip
      refine wpAnyH_take (i := 0) (oi := ⟨some 17, _, _, _, _, _⟩) (v := ?vvax1) rfl (by kernel_rfl) (by kernel_rfl) (by kernel_rfl) (fun _ _ _ h => h) (Or.inl ⟨by kernel_rfl, ?hyvax1⟩) (by assumption) ?restvax1
      case hyvax1 => (intro W hSw; obtain ⟨k1, k2, k3, k4, k5, k6, k7, k8⟩ := HC.out W hSw; clear hSw; (try dsimp only at hSw); go_simp; try with_reducible rfl)
      case' restvax1 => try simp only [Act.put, List.setIfInBounds_toArray, List.set_cons_zero, List.set_cons_succ]
      refine wpAnyH_take (i := 1) (oi := ⟨some 18, _, _, _, _, _⟩) (v := ?vvax2) rfl (by kernel_rfl) (by kernel_rfl) (by kernel_rfl) (fun _ _ _ h => h) (Or.inl ⟨by kernel_rfl, ?hyvax2⟩) (by assumption) ?restvax2
      case hyvax2 => (intro W hSw; obtain ⟨k1, k2, k3, k4, k5, k6, k7, k8⟩ := HC.out W hSw; clear hSw; (try dsimp only at hSw); go_simp; try with_reducible rfl)
      case' restvax2 => try simp only [Act.put, List.setIfInBounds_toArray, List.set_cons_zero, List.set_cons_succ]
      refine wpAnyH_take (i := 2) (oi := ⟨some 19, _, _, _, _, _⟩) (v := ?vvax3) rfl (by kernel_rfl) (by kernel_rfl) (by kernel_rfl) (fun _ _ _ h => h) (Or.inl ⟨by kernel_rfl, ?hyvax3⟩) (by assumption) ?restvax3
      case hyvax3 => (intro W hSw; obtain ⟨k1, k2, k3, k4, k5, k6, k7, k8⟩ := HC.out W hSw; clear hSw; (try dsimp only at hSw); go_simp; try with_reducible rfl)
      case' restvax3 => try simp only [Act.put, List.setIfInBounds_toArray, List.set_cons_zero, List.set_cons_succ]
      refine wpAnyH_take (i := 4) (oi := ⟨some 21, _, _, _, _, _⟩) (v := ?vvax4) rfl (by kernel_rfl) (by kernel_rfl) (by kernel_rfl) (fun _ _ _ h => h) (Or.inl ⟨by kernel_rfl, ?hyvax4⟩) (by assumption) ?restvax4
      case hyvax4 => (intro W hSw; obtain ⟨k1, k2, k3, k4, k5, k6, k7, k8⟩ := HC.out W hSw; clear hSw; (try dsimp only at hSw); go_simp; try with_reducible rfl)
      case' restvax4 => try simp only [Act.put, List.setIfInBounds_toArray, List.set_cons_zero, List.set_cons_succ]
      refine wpAnyH_take (i := 5) (oi := ⟨some 22, _, _, _, _, _⟩) (v := ?vvax5) rfl (by kernel_rfl) (by kernel_rfl) (by kernel_rfl) (fun _ _ _ h => h) (Or.inl ⟨by kernel_rfl, ?hyvax5⟩) (by assumption) ?restvax5
      case hyvax5 => (intro W hSw; obtain ⟨k1, k2, k3, k4, k5, k6, k7, k8⟩ := HC.out W hSw; clear hSw; (try dsimp only at hSw); go_simp; try with_reducible rfl)
      case' restvax5 => try simp only [Act.put, List.setIfInBounds_toArray, List.set_cons_zero, List.set_cons_succ]
      refine wpAnyH_take (i := 6) (oi := ⟨some 23, _, _, _, _, _⟩) (v := ?vvax6) rfl (by kernel_rfl) (by kernel_rfl) (by kernel_rfl) (fun _ _ _ h => h) (Or.inl ⟨by kernel_rfl, ?hyvax6⟩) (by assumption) ?restvax6
      case hyvax6 => (intro W hSw; obtain ⟨k1, k2, k3, k4, k5, k6, k7, k8⟩ := HC.out W hSw; clear hSw; (try dsimp only at hSw); go_simp; try with_reducible rfl)
      case' restvax6 => try simp only [Act.put, List.setIfInBounds_toArray, List.set_cons_zero, List.set_cons_succ]
      refine wpAnyH_ready (rs := [3]) (by kernel_rfl) (by simp) ?_
      refine AllReadyH.cons (o := ⟨some 20, _, _, _, _, _⟩) rfl (fun K hK => ?_) AllReadyH.nil
      go_simp
      go_at_call 22
      refine (Cabc.out _).mono ?_
      rintro e Wvax1 ⟨rfl, hbWvax1⟩
      have hSWvax1 := hS0.trans (hbWvax1.mono hS0.size)
      try clear hS0
      clear hbWvax1
      go_wp2_with fail
      refine hK.out _ _ hSWvax1 (fun hHeld => ?_)
      clear hK hHeld K
      try simp only [Act.put, List.setIfInBounds_toArray, List.set_cons_zero, List.set_cons_succ]
      refine wpAnyH_ready (rs := [7]) (by kernel_rfl) (by simp) ?_
      refine AllReadyH.cons (o := ⟨some 24, _, _, _, _, _⟩) rfl (fun K hK => ?_) AllReadyH.nil
      go_simp
      go_at_call 22
      refine (Cabd.out _).mono ?_
      rintro e Wvax2 ⟨rfl, hbWvax2⟩
      have hSWvax2 := hSWvax1.trans (hbWvax2.mono hSWvax1.size)
      try clear hSWvax1
      clear hbWvax2
      go_wp2_with fail
      refine hK.out _ _ hSWvax2 (fun hHeld => ?_)
      clear hK hHeld K
      try simp only [Act.put, List.setIfInBounds_toArray, List.set_cons_zero, List.set_cons_succ]
      refine wpAnyH_take (i := 8) (oi := ⟨some 25, _, _, _, _, _⟩) (v := ?vvax7) rfl (by kernel_rfl) (by kernel_rfl) (by kernel_rfl) (fun _ _ _ h => h) (Or.inl ⟨by kernel_rfl, ?hyvax7⟩) (by assumption) ?restvax7
      case hyvax7 => (intro W hSw; (try dsimp only at hSw); go_simp; try with_reducible rfl)
      case' restvax7 => try simp only [Act.put, List.setIfInBounds_toArray, List.set_cons_zero, List.set_cons_succ]
      refine wpAnyH_take (i := 9) (oi := ⟨some 26, _, _, _, _, _⟩) (v := ?vvax8) rfl (by kernel_rfl) (by kernel_rfl) (by kernel_rfl) (fun _ _ _ h => h) (Or.inl ⟨by kernel_rfl, ?hyvax8⟩) (by assumption) ?restvax8
      case hyvax8 => (intro W hSw; (try dsimp only at hSw); go_simp; try with_reducible rfl)
      case' restvax8 => try simp only [Act.put, List.setIfInBounds_toArray, List.set_cons_zero, List.set_cons_succ]
      refine wpAnyH_take (i := 10) (oi := ⟨some 27, _, _, _, _, _⟩) (v := ?vvax9) rfl (by kernel_rfl) (by kernel_rfl) (by kernel_rfl) (fun _ _ _ h => h) (Or.inl ⟨by kernel_rfl, ?hyvax9⟩) (by assumption) ?restvax9
      case hyvax9 => (intro W hSw; (try dsimp only at hSw); go_simp; try with_reducible rfl)
      case' restvax9 => try simp only [Act.put, List.setIfInBounds_toArray, List.set_cons_zero, List.set_cons_succ]
      refine wpAnyH_take (i := 11) (oi := ⟨some 28, _, _, _, _, _⟩) (v := ?vvax10) rfl (by kernel_rfl) (by kernel_rfl) (by kernel_rfl) (fun _ _ _ h => h) (Or.inl ⟨by kernel_rfl, ?hyvax10⟩) (by assumption) ?restvax10
      case hyvax10 => (intro W hSw; obtain ⟨k1, k2, k3, k4, k5, k6, k7, k8⟩ := HC.out W hSw; clear hSw; (try dsimp only at hSw); go_simp; try with_reducible rfl)
      case' restvax10 => try simp only [Act.put, List.setIfInBounds_toArray, List.set_cons_zero, List.set_cons_succ]
      refine wpAnyH_take (i := 12) (oi := ⟨some 29, _, _, _, _, _⟩) (v := ?vvax11) rfl (by kernel_rfl) (by kernel_rfl) (by kernel_rfl) (fun _ _ _ h => h) (Or.inl ⟨by kernel_rfl, ?hyvax11⟩) (by assumption) ?restvax11
      case hyvax11 => (intro W hSw; obtain ⟨k1, k2, k3, k4, k5, k6, k7, k8⟩ := HC.out W hSw; clear hSw; (try dsimp only at hSw); go_simp; try with_reducible rfl)
      case' restvax11 => try simp only [Act.put, List.setIfInBounds_toArray, List.set_cons_zero, List.set_cons_succ]
      refine wpAnyH_take (i := 13) (oi := ⟨some 30, _, _, _, _, _⟩) (v := ?vvax12) rfl (by kernel_rfl) (by kernel_rfl) (by kernel_rfl) (fun _ _ _ h => h) (Or.inl ⟨by kernel_rfl, ?hyvax12⟩) (by assumption) ?restvax12
      case hyvax12 => (intro W hSw; obtain ⟨k1, k2, k3, k4, k5, k6, k7, k8⟩ := HC.out W hSw; clear hSw; (try dsimp only at hSw); go_simp; try with_reducible rfl)
      case' restvax12 => try simp only [Act.put, List.setIfInBounds_toArray, List.set_cons_zero, List.set_cons_succ]
      refine wpAnyH_take (i := 15) (oi := ⟨some 32, _, _, _, _, _⟩) (v := ?vvax13) rfl (by kernel_rfl) (by kernel_rfl) (by kernel_rfl) (fun _ _ _ h => h) (Or.inl ⟨by kernel_rfl, ?hyvax13⟩) (by assumption) ?restvax13
      case hyvax13 => (intro W hSw; obtain ⟨k1, k2, k3, k4, k5, k6, k7, k8⟩ := HC.out W hSw; clear hSw; (try dsimp only at hSw); go_simp; try with_reducible rfl)
      case' restvax13 => try simp only [Act.put, List.setIfInBounds_toArray, List.set_cons_zero, List.set_cons_succ]
      refine wpAnyH_take (i := 16) (oi := ⟨some 33, _, _, _, _, _⟩) (v := ?vvax14) rfl (by kernel_rfl) (by kernel_rfl) (by kernel_rfl) (fun _ _ _ h => h) (Or.inl ⟨by kernel_rfl, ?hyvax14⟩) (by assumption) ?restvax14
      case hyvax14 => (intro W hSw; obtain ⟨k1, k2, k3, k4, k5, k6, k7, k8⟩ := HC.out W hSw; clear hSw; (try dsimp only at hSw); go_simp; try with_reducible rfl)
      case' restvax14 => try simp only [Act.put, List.setIfInBounds_toArray, List.set_cons_zero, List.set_cons_succ]
      refine wpAnyH_take (i := 17) (oi := ⟨some 34, _, _, _, _, _⟩) (v := ?vvax15) rfl (by kernel_rfl) (by kernel_rfl) (by kernel_rfl) (fun _ _ _ h => h) (Or.inl ⟨by kernel_rfl, ?hyvax15⟩) (by assumption) ?restvax15
      case hyvax15 => (intro W hSw; obtain ⟨k1, k2, k3, k4, k5, k6, k7, k8⟩ := HC.out W hSw; clear hSw; (try dsimp only at hSw); go_simp; try with_reducible rfl)
      case' restvax15 => try simp only [Act.put, List.setIfInBounds_toArray, List.set_cons_zero, List.set_cons_succ]
      refine wpAnyH_ready (rs := [14]) (by kernel_rfl) (by simp) ?_
      refine AllReadyH.cons (o := ⟨some 31, _, _, _, _, _⟩) rfl (fun K hK => ?_) AllReadyH.nil
      go_simp
      go_at_call 22
      refine (Ccda.out _).mono ?_
      rintro e Wvax3 ⟨rfl, hbWvax3⟩
      have hSWvax3 := hSWvax2.trans (hbWvax3.mono hSWvax2.size)
      try clear hSWvax2
      clear hbWvax3
      go_wp2_with fail
      refine hK.out _ _ hSWvax3 (fun hHeld => ?_)
      clear hK hHeld K
      try simp only [Act.put, List.setIfInBounds_toArray, List.set_cons_zero, List.set_cons_succ]
      refine wpAnyH_ready (rs := [18]) (by kernel_rfl) (by simp) ?_
      refine AllReadyH.cons (o := ⟨some 35, _, _, _, _, _⟩) rfl (fun K hK => ?_) AllReadyH.nil
      go_simp
      go_at_call 22
      refine (Ccdb.out _).mono ?_
      rintro e Wvax4 ⟨rfl, hbWvax4⟩
      have hSWvax4 := hSWvax3.trans (hbWvax4.mono hSWvax3.size)
      try clear hSWvax3
      clear hbWvax4
      go_wp2_with fail
      refine hK.out _ _ hSWvax4 (fun hHeld => ?_)
      clear hK hHeld K
      try simp only [Act.put, List.setIfInBounds_toArray, List.set_cons_zero, List.set_cons_succ]
      refine wpAnyH_take (i := 19) (oi := ⟨some 36, _, _, _, _, _⟩) (v := ?vvax16) rfl (by kernel_rfl) (by kernel_rfl) (by kernel_rfl) (fun _ _ _ h => h) (Or.inl ⟨by kernel_rfl, ?hyvax16⟩) (by assumption) ?restvax16
      case hyvax16 => (intro W hSw; (try dsimp only at hSw); go_simp; try with_reducible rfl)
      case' restvax16 => try simp only [Act.put, List.setIfInBounds_toArray, List.set_cons_zero, List.set_cons_succ]
      refine wpAnyH_take (i := 20) (oi := ⟨some 37, _, _, _, _, _⟩) (v := ?vvax17) rfl (by kernel_rfl) (by kernel_rfl) (by kernel_rfl) (fun _ _ _ h => h) (Or.inl ⟨by kernel_rfl, ?hyvax17⟩) (by assumption) ?restvax17
      case hyvax17 => (intro W hSw; (try dsimp only at hSw); go_simp; try with_reducible rfl)
      case' restvax17 => try simp only [Act.put, List.setIfInBounds_toArray, List.set_cons_zero, List.set_cons_succ]
      refine wpAnyH_take (i := 21) (oi := ⟨some 38, _, _, _, _, _⟩) (v := ?vvax18) rfl (by kernel_rfl) (by kernel_rfl) (by kernel_rfl) (fun _ _ _ h => h) (Or.inl ⟨by kernel_rfl, ?hyvax18⟩) (by assumption) ?restvax18
      case hyvax18 => (intro W hSw; (try dsimp only at hSw); go_simp; try with_reducible rfl)
      case' restvax18 => try simp only [Act.put, List.setIfInBounds_toArray, List.set_cons_zero, List.set_cons_succ]
      refine wpAnyH_take (i := 22) (oi := ⟨some 9, _, _, _, _, _⟩) (v := ?vvax19) rfl (by kernel_rfl) (by kernel_rfl) (by kernel_rfl) (fun _ _ _ h => h) (Or.inl ⟨by kernel_rfl, ?hyvax19⟩) (by assumption) ?restvax19
      case hyvax19 => (intro W hSw; (try dsimp only at hSw); go_simp; try with_reducible rfl)
      case' restvax19 => try simp only [Act.put, List.setIfInBounds_toArray, List.set_cons_zero, List.set_cons_succ]
      refine wpAnyH_done (by kernel_rfl) ?_ _
      go_wp2
      go_ret
      exact RetV.int (by rw [HR.out]; rfl) (hd0.trans (hSWvax4.mono hd0.size))
    · skip
      refine wpAnyH_take (i := 0) (oi := ⟨some 17, _, _, _, _, _⟩) (v := ?vvay1) rfl (by kernel_rfl) (by kernel_rfl) (by kernel_rfl) (fun _ _ _ h => h) (Or.inl ⟨by kernel_rfl, ?hyvay1⟩) (by assumption) ?restvay1
      case hyvay1 => (intro W hSw; obtain ⟨k1, k2, k3, k4, k5, k6, k7, k8⟩ := HC.out W hSw; clear hSw; (try dsimp only at hSw); go_simp; try with_reducible rfl)
      case' restvay1 => try simp only [Act.put, List.setIfInBounds_toArray, List.set_cons_zero, List.set_cons_succ]
      refine wpAnyH_take (i := 1) (oi := ⟨some 18, _, _, _, _, _⟩) (v := ?vvay2) rfl (by kernel_rfl) (by kernel_rfl) (by kernel_rfl) (fun _ _ _ h => h) (Or.inl ⟨by kernel_rfl, ?hyvay2⟩) (by assumption) ?restvay2
      case hyvay2 => (intro W hSw; obtain ⟨k1, k2, k3, k4, k5, k6, k7, k8⟩ := HC.out W hSw; clear hSw; (try dsimp only at hSw); go_simp; try with_reducible rfl)
      case' restvay2 => try simp only [Act.put, List.setIfInBounds_toArray, List.set_cons_zero, List.set_cons_succ]
      refine wpAnyH_take (i := 2) (oi := ⟨some 19, _, _, _, _, _⟩) (v := ?vvay3) rfl (by kernel_rfl) (by kernel_rfl) (by kernel_rfl) (fun _ _ _ h => h) (Or.inl ⟨by kernel_rfl, ?hyvay3⟩) (by assumption) ?restvay3
      case hyvay3 => (intro W hSw; obtain ⟨k1, k2, k3, k4, k5, k6, k7, k8⟩ := HC.out W hSw; clear hSw; (try dsimp only at hSw); go_simp; try with_reducible rfl)
      case' restvay3 => try simp only [Act.put, List.setIfInBounds_toArray, List.set_cons_zero, List.set_cons_succ]
      refine wpAnyH_take (i := 4) (oi := ⟨some 21, _, _, _, _, _⟩) (v := ?vvay4) rfl (by kernel_rfl) (by kernel_rfl) (by kernel_rfl) (fun _ _ _ h => h) (Or.inl ⟨by kernel_rfl, ?hyvay4⟩) (by assumption) ?restvay4
      case hyvay4 => (intro W hSw; obtain ⟨k1, k2, k3, k4, k5, k6, k7, k8⟩ := HC.out W hSw; clear hSw; (try dsimp only at hSw); go_simp; try with_reducible rfl)
      case' restvay4 => try simp only [Act.put, List.setIfInBounds_toArray, List.set_cons_zero, List.set_cons_succ]
      refine wpAnyH_take (i := 5) (oi := ⟨some 22, _, _, _, _, _⟩) (v := ?vvay5) rfl (by kernel_rfl) (by kernel_rfl) (by kernel_rfl) (fun _ _ _ h => h) (Or.inl ⟨by kernel_rfl, ?hyvay5⟩) (by assumption) ?restvay5
      case hyvay5 => (intro W hSw; obtain ⟨k1, k2, k3, k4, k5, k6, k7, k8⟩ := HC.out W hSw; clear hSw; (try dsimp only at hSw); go_simp; try with_reducible rfl)
      case' restvay5 => try simp only [Act.put, List.setIfInBounds_toArray, List.set_cons_zero, List.set_cons_succ]
      refine wpAnyH_take (i := 6) (oi := ⟨some 23, _, _, _, _, _⟩) (v := ?vvay6) rfl (by kernel_rfl) (by kernel_rfl) (by kernel_rfl) (fun _ _ _ h => h) (Or.inl ⟨by kernel_rfl, ?hyvay6⟩) (by assumption) ?restvay6
      case hyvay6 => (intro W hSw; obtain ⟨k1, k2, k3, k4, k5, k6, k7, k8⟩ := HC.out W hSw; clear hSw; (try dsimp only at hSw); go_simp; try with_reducible rfl)
      case' restvay6 => try simp only [Act.put, List.setIfInBounds_toArray, List.set_cons_zero, List.set_cons_succ]
      refine wpAnyH_ready (rs := [3]) (by kernel_rfl) (by simp) ?_
      refine AllReadyH.cons (o := ⟨some 20, _, _, _, _, _⟩) rfl (fun K hK => ?_) AllReadyH.nil
      go_simp
      go_at_call 22
      refine (Cabc.out _).mono ?_
      rintro e Wvay1 ⟨rfl, hbWvay1⟩
      have hSWvay1 := hS0.trans (hbWvay1.mono hS0.size)
      try clear hS0
      clear hbWvay1
      go_wp2_with fail
      refine hK.out _ _ hSWvay1 (fun hHeld => ?_)
      clear hK hHeld K
      try simp only [Act.put, List.setIfInBounds_toArray, List.set_cons_zero, List.set_cons_succ]
      refine wpAnyH_ready (rs := [7]) (by kernel_rfl) (by simp) ?_
      refine AllReadyH.cons (o := ⟨some 24, _, _, _, _, _⟩) rfl (fun K hK => ?_) AllReadyH.nil
      go_simp
      go_at_call 22
      refine (Cabd.out _).mono ?_
      rintro e Wvay2 ⟨rfl, hbWvay2⟩
      have hSWvay2 := hSWvay1.trans (hbWvay2.mono hSWvay1.size)
      try clear hSWvay1
      clear hbWvay2
      go_wp2_with fail
      refine hK.out _ _ hSWvay2 (fun hHeld => ?_)
      clear hK hHeld K
      try simp only [Act.put, List.setIfInBounds_toArray, List.set_cons_zero, List.set_cons_succ]
      refine wpAnyH_take (i := 8) (oi := ⟨some 25, _, _, _, _, _⟩) (v := ?vvay7) rfl (by kernel_rfl) (by kernel_rfl) (by kernel_rfl) (fun _ _ _ h => h) (Or.inl ⟨by kernel_rfl, ?hyvay7⟩) (by assumption) ?restvay7
      case hyvay7 => (intro W hSw; (try dsimp only at hSw); go_simp; try with_reducible rfl)
      case' restvay7 => try simp only [Act.put, List.setIfInBounds_toArray, List.set_cons_zero, List.set_cons_succ]
      refine wpAnyH_take (i := 9) (oi := ⟨some 26, _, _, _, _, _⟩) (v := ?vvay8) rfl (by kernel_rfl) (by kernel_rfl) (by kernel_rfl) (fun _ _ _ h => h) (Or.inl ⟨by kernel_rfl, ?hyvay8⟩) (by assumption) ?restvay8
      case hyvay8 => (intro W hSw; (try dsimp only at hSw); go_simp; try with_reducible rfl)
      case' restvay8 => try simp only [Act.put, List.setIfInBounds_toArray, List.set_cons_zero, List.set_cons_succ]
      refine wpAnyH_take (i := 10) (oi := ⟨some 27, _, _, _, _, _⟩) (v := ?vvay9) rfl (by kernel_rfl) (by kernel_rfl) (by kernel_rfl) (fun _ _ _ h => h) (Or.inl ⟨by kernel_rfl, ?hyvay9⟩) (by assumption) ?restvay9
      case hyvay9 => (intro W hSw; (try dsimp only at hSw); go_simp; try with_reducible rfl)
      case' restvay9 => try simp only [Act.put, List.setIfInBounds_toArray, List.set_cons_zero, List.set_cons_succ]
      refine wpAnyH_take (i := 11) (oi := ⟨some 28, _, _, _, _, _⟩) (v := ?vvay10) rfl (by kernel_rfl) (by kernel_rfl) (by kernel_rfl) (fun _ _ _ h => h) (Or.inl ⟨by kernel_rfl, ?hyvay10⟩) (by assumption) ?restvay10
      case hyvay10 => (intro W hSw; obtain ⟨k1, k2, k3, k4, k5, k6, k7, k8⟩ := HC.out W hSw; clear hSw; (try dsimp only at hSw); go_simp; try with_reducible rfl)
      case' restvay10 => try simp only [Act.put, List.setIfInBounds_toArray, List.set_cons_zero, List.set_cons_succ]
      refine wpAnyH_take (i := 12) (oi := ⟨some 29, _, _, _, _, _⟩) (v := ?vvay11) rfl (by kernel_rfl) (by kernel_rfl) (by kernel_rfl) (fun _ _ _ h => h) (Or.inl ⟨by kernel_rfl, ?hyvay11⟩) (by assumption) ?restvay11
      case hyvay11 => (intro W hSw; obtain ⟨k1, k2, k3, k4, k5, k6, k7, k8⟩ := HC.out W hSw; clear hSw; (try dsimp only at hSw); go_simp; try with_reducible rfl)
      case' restvay11 => try simp only [Act.put, List.setIfInBounds_toArray, List.set_cons_zero, List.set_cons_succ]
      refine wpAnyH_take (i := 13) (oi := ⟨some 30, _, _, _, _, _⟩) (v := ?vvay12) rfl (by kernel_rfl) (by kernel_rfl) (by kernel_rfl) (fun _ _ _ h => h) (Or.inl ⟨by kernel_rfl, ?hyvay12⟩) (by assumption) ?restvay12
      case hyvay12 => (intro W hSw; obtain ⟨k1, k2, k3, k4, k5, k6, k7, k8⟩ := HC.out W hSw; clear hSw; (try dsimp only at hSw); go_simp; try with_reducible rfl)
      case' restvay12 => try simp only [Act.put, List.setIfInBounds_toArray, List.set_cons_zero, List.set_cons_succ]
      refine wpAnyH_take (i := 15) (oi := ⟨some 32, _, _, _, _, _⟩) (v := ?vvay13) rfl (by kernel_rfl) (by kernel_rfl) (by kernel_rfl) (fun _ _ _ h => h) (Or.inl ⟨by kernel_rfl, ?hyvay13⟩) (by assumption) ?restvay13
      case hyvay13 => (intro W hSw; obtain ⟨k1, k2, k3, k4, k5, k6, k7, k8⟩ := HC.out W hSw; clear hSw; (try dsimp only at hSw); go_simp; try with_reducible rfl)
      case' restvay13 => try simp only [Act.put, List.setIfInBounds_toArray, List.set_cons_zero, List.set_cons_succ]
      refine wpAnyH_take (i := 16) (oi := ⟨some 33, _, _, _, _, _⟩) (v := ?vvay14) rfl (by kernel_rfl) (by kernel_rfl) (by kernel_rfl) (fun _ _ _ h => h) (Or.inl ⟨by kernel_rfl, ?hyvay14⟩) (by assumption) ?restvay14
      case hyvay14 => (intro W hSw; obtain ⟨k1, k2, k3, k4, k5, k6, k7, k8⟩ := HC.out W hSw; clear hSw; (try dsimp only at hSw); go_simp; try with_reducible rfl)
      case' restvay14 => try simp only [Act.put, List.setIfInBounds_toArray, List.set_cons_zero, List.set_cons_succ]
      refine wpAnyH_take (i := 17) (oi := ⟨some 34, _, _, _, _, _⟩) (v := ?vvay15) rfl (by kernel_rfl) (by kernel_rfl) (by kernel_rfl) (fun _ _ _ h => h) (Or.inl ⟨by kernel_rfl, ?hyvay15⟩) (by assumption) ?restvay15
      case hyvay15 => (intro W hSw; obtain ⟨k1, k2, k3, k4, k5, k6, k7, k8⟩ := HC.out W hSw; clear hSw; (try dsimp only at hSw); go_simp; try with_reducible rfl)
      case' restvay15 => try simp only [Act.put, List.setIfInBounds_toArray, List.set_cons_zero, List.set_cons_succ]
      refine wpAnyH_ready (rs := [14]) (by kernel_rfl) (by simp) ?_
      refine AllReadyH.cons (o := ⟨some 31, _, _, _, _, _⟩) rfl (fun K hK => ?_) AllReadyH.nil
      go_simp
      go_at_call 22
      refine (Ccda.out _).mono ?_
      rintro e Wvay3 ⟨rfl, hbWvay3⟩
      have hSWvay3 := hSWvay2.trans (hbWvay3.mono hSWvay2.size)
      try clear hSWvay2
      clear hbWvay3
      go_wp2_with fail
      refine hK.out _ _ hSWvay3 (fun hHeld => ?_)
      clear hK hHeld K
      try simp only [Act.put, List.setIfInBounds_toArray, List.set_cons_zero, List.set_cons_succ]
      refine wpAnyH_ready (rs := [18]) (by kernel_rfl) (by simp) ?_
      refine AllReadyH.cons (o := ⟨some 35, _, _, _, _, _⟩) rfl (fun K hK => ?_) AllReadyH.nil
      go_simp
      go_at_call 22
      refine (Ccdb.out _).mono ?_
      rintro e Wvay4 ⟨rfl, hbWvay4⟩
      have hSWvay4 := hSWvay3.trans (hbWvay4.mono hSWvay3.size)
      try clear hSWvay3
      clear hbWvay4
      go_wp2_with fail
      refine hK.out _ _ hSWvay4 (fun hHeld => ?_)
      clear hK hHeld K
      try simp only [Act.put, List.setIfInBounds_toArray, List.set_cons_zero, List.set_cons_succ]
      refine wpAnyH_take (i := 19) (oi := ⟨some 36, _, _, _, _, _⟩) (v := ?vvay16) rfl (by kernel_rfl) (by kernel_rfl) (by kernel_rfl) (fun _ _ _ h => h) (Or.inl ⟨by kernel_rfl, ?hyvay16⟩) (by assumption) ?restvay16
      case hyvay16 => (intro W hSw; (try dsimp only at hSw); go_simp; try with_reducible rfl)
      case' restvay16 => try simp only [Act.put, List.setIfInBounds_toArray, List.set_cons_zero, List.set_cons_succ]
      refine wpAnyH_take (i := 20) (oi := ⟨some 37, _, _, _, _, _⟩) (v := ?vvay17) rfl (by kernel_rfl) (by kernel_rfl) (by kernel_rfl) (fun _ _ _ h => h) (Or.inl ⟨by kernel_rfl, ?hyvay17⟩) (by assumption) ?restvay17
      case hyvay17 => (intro W hSw; (try dsimp only at hSw); go_simp; try with_reducible rfl)
      case' restvay17 => try simp only [Act.put, List.setIfInBounds_toArray, List.set_cons_zero, List.set_cons_succ]
      refine wpAnyH_take (i := 21) (oi := ⟨some 38, _, _, _, _, _⟩) (v := ?vvay18) rfl (by kernel_rfl) (by kernel_rfl) (by kernel_rfl) (fun _ _ _ h => h) (Or.inl ⟨by kernel_rfl, ?hyvay18⟩) (by assumption) ?restvay18
      case hyvay18 => (intro W hSw; (try dsimp only at hSw); go_simp; try with_reducible rfl)
      case' restvay18 => try simp only [Act.put, List.setIfInBounds_toArray, List.set_cons_zero, List.set_cons_succ]
      refine wpAnyH_take (i := 22) (oi := ⟨some 9, _, _, _, _, _⟩) (v := ?vvay19) rfl (by kernel_rfl) (by kernel_rfl) (by kernel_rfl) (fun _ _ _ h => h) (Or.inl ⟨by kernel_rfl, ?hyvay19⟩) (by assumption) ?restvay19
      case hyvay19 => (intro W hSw; (try dsimp only at hSw); go_simp; try with_reducible rfl)
      case' restvay19 => try simp only [Act.put, List.setIfInBounds_toArray, List.set_cons_zero, List.set_cons_succ]
      refine wpAnyH_done (by kernel_rfl) ?_ _
      go_wp2
      go_ret
      exact RetV.int (by rw [HR.out]; rfl) (hd0.trans (hSWvay4.mono hd0.size))
  · have d5 : decide (s1 * s2 ≤ 0) = false := decide_eq_false e5
    rw [d5] at HR
    clear e5
    have w12' := w12.out
    have w34' := w34.out
    clear w12 w34
    refine wp_region_held_drew (S := fun W : World => Below w2.drew.heap.size w2.drew W) (by kernel_rfl) (Below.refl _ _) (fun hHeld => ?_)
    clear hHeld
    have hd0 : Below w.heap.size w w2.drew := hw2.drew
    have HC : Hid (∀ W, Below w2.drew.heap.size w2.drew W → W.cell? ⟨w.heap.size, 0, none⟩ = some (.int .i64 a1) ∧ W.cell? ⟨w.heap.size, 1, none⟩ = some (.int .i64 a2) ∧ W.cell? ⟨w.heap.size + 1, 0, none⟩ = some (.int .i64 b1) ∧ W.cell? ⟨w.heap.size + 1, 1, none⟩ = some (.int .i64 b2) ∧ W.cell? ⟨w.heap.size + 1 + 1, 0, none⟩ = some (.int .i64 c1) ∧ W.cell? ⟨w.heap.size + 1 + 1, 1, none⟩ = some (.int .i64 c2) ∧ W.cell? ⟨w.heap.size + 1 + 1 + 1, 0, none⟩ = some (.int .i64 d1) ∧ W.cell? ⟨w.heap.size + 1 + 1 + 1, 1, none⟩ = some (.int .i64 d2)) := Lib.hid (fun W hb => box4' w0' HW0.out (hb3.drew.trans (hb.mono hb3.drew.size)))
    clear hb3 hw2 k1 k2 k3 k4 k5 k6 k7 k8 HS
    generalize w2.drew = w0 at *
    have hS0 : (fun W : World => Below w0.heap.size w0 W) w0 := Below.refl _ _
    refine wpAnyH_take (i := 0) (oi := ⟨some 17, _, _, _, _, _⟩) (v := ?vvb1) rfl (by kernel_rfl) (by kernel_rfl) (by kernel_rfl) (fun _ _ _ h => h) (Or.inl ⟨by kernel_rfl, ?hyvb1⟩) (by assumption) ?restvb1
    case hyvb1 => (intro W hSw; obtain ⟨k1, k2, k3, k4, k5, k6, k7, k8⟩ := HC.out W hSw; clear hSw; (try dsimp only at hSw); go_simp; try with_reducible rfl)
    case' restvb1 => try simp only [Act.put, List.setIfInBounds_toArray, List.set_cons_zero, List.set_cons_succ]
    refine wpAnyH_take (i := 1) (oi := ⟨some 18, _, _, _, _, _⟩) (v := ?vvb2) rfl (by kernel_rfl) (by kernel_rfl) (by kernel_rfl) (fun _ _ _ h => h) (Or.inl ⟨by kernel_rfl, ?hyvb2⟩) (by assumption) ?restvb2
    case hyvb2 => (intro W hSw; obtain ⟨k1, k2, k3, k4, k5, k6, k7, k8⟩ := HC.out W hSw; clear hSw; (try dsimp only at hSw); go_simp; try with_reducible rfl)
    case' restvb2 => try simp only [Act.put, List.setIfInBounds_toArray, List.set_cons_zero, List.set_cons_succ]
    refine wpAnyH_take (i := 2) (oi := ⟨some 19, _, _, _, _, _⟩) (v := ?vvb3) rfl (by kernel_rfl) (by kernel_rfl) (by kernel_rfl) (fun _ _ _ h => h) (Or.inl ⟨by kernel_rfl, ?hyvb3⟩) (by assumption) ?restvb3
    case hyvb3 => (intro W hSw; obtain ⟨k1, k2, k3, k4, k5, k6, k7, k8⟩ := HC.out W hSw; clear hSw; (try dsimp only at hSw); go_simp; try with_reducible rfl)
    case' restvb3 => try simp only [Act.put, List.setIfInBounds_toArray, List.set_cons_zero, List.set_cons_succ]
    refine wpAnyH_take (i := 4) (oi := ⟨some 21, _, _, _, _, _⟩) (v := ?vvb4) rfl (by kernel_rfl) (by kernel_rfl) (by kernel_rfl) (fun _ _ _ h => h) (Or.inl ⟨by kernel_rfl, ?hyvb4⟩) (by assumption) ?restvb4
    case hyvb4 => (intro W hSw; obtain ⟨k1, k2, k3, k4, k5, k6, k7, k8⟩ := HC.out W hSw; clear hSw; (try dsimp only at hSw); go_simp; try with_reducible rfl)
    case' restvb4 => try simp only [Act.put, List.setIfInBounds_toArray, List.set_cons_zero, List.set_cons_succ]
    refine wpAnyH_take (i := 5) (oi := ⟨some 22, _, _, _, _, _⟩) (v := ?vvb5) rfl (by kernel_rfl) (by kernel_rfl) (by kernel_rfl) (fun _ _ _ h => h) (Or.inl ⟨by kernel_rfl, ?hyvb5⟩) (by assumption) ?restvb5
    case hyvb5 => (intro W hSw; obtain ⟨k1, k2, k3, k4, k5, k6, k7, k8⟩ := HC.out W hSw; clear hSw; (try dsimp only at hSw); go_simp; try with_reducible rfl)
    case' restvb5 => try simp only [Act.put, List.setIfInBounds_toArray, List.set_cons_zero, List.set_cons_succ]
    refine wpAnyH_take (i := 6) (oi := ⟨some 23, _, _, _, _, _⟩) (v := ?vvb6) rfl (by kernel_rfl) (by kernel_rfl) (by kernel_rfl) (fun _ _ _ h => h) (Or.inl ⟨by kernel_rfl, ?hyvb6⟩) (by assumption) ?restvb6
    case hyvb6 => (intro W hSw; obtain ⟨k1, k2, k3, k4, k5, k6, k7, k8⟩ := HC.out W hSw; clear hSw; (try dsimp only at hSw); go_simp; try with_reducible rfl)
    case' restvb6 => try simp only [Act.put, List.setIfInBounds_toArray, List.set_cons_zero, List.set_cons_succ]
    refine wpAnyH_ready (rs := [3]) (by kernel_rfl) (by simp) ?_
    refine AllReadyH.cons (o := ⟨some 20, _, _, _, _, _⟩) rfl (fun K hK => ?_) AllReadyH.nil
    go_simp
    go_at_call 22
    refine (Cabc.out _).mono ?_
    rintro e Wvb1 ⟨rfl, hbWvb1⟩
    have hSWvb1 := hS0.trans (hbWvb1.mono hS0.size)
    try clear hS0
    clear hbWvb1
    go_wp2_with fail
    refine hK.out _ _ hSWvb1 (fun hHeld => ?_)
    clear hK hHeld K
    try simp only [Act.put, List.setIfInBounds_toArray, List.set_cons_zero, List.set_cons_succ]
    refine wpAnyH_ready (rs := [7]) (by kernel_rfl) (by simp) ?_
    refine AllReadyH.cons (o := ⟨some 24, _, _, _, _, _⟩) rfl (fun K hK => ?_) AllReadyH.nil
    go_simp
    go_at_call 22
    refine (Cabd.out _).mono ?_
    rintro e Wvb2 ⟨rfl, hbWvb2⟩
    have hSWvb2 := hSWvb1.trans (hbWvb2.mono hSWvb1.size)
    try clear hSWvb1
    clear hbWvb2
    go_wp2_with fail
    refine hK.out _ _ hSWvb2 (fun hHeld => ?_)
    clear hK hHeld K
    try simp only [Act.put, List.setIfInBounds_toArray, List.set_cons_zero, List.set_cons_succ]
    refine wpAnyH_take (i := 8) (oi := ⟨some 25, _, _, _, _, _⟩) (v := ?vvb7) rfl (by kernel_rfl) (by kernel_rfl) (by kernel_rfl) (fun _ _ _ h => h) (Or.inl ⟨by kernel_rfl, ?hyvb7⟩) (by assumption) ?restvb7
    case hyvb7 => (intro W hSw; (try dsimp only at hSw); go_simp; try with_reducible rfl)
    case' restvb7 => try simp only [Act.put, List.setIfInBounds_toArray, List.set_cons_zero, List.set_cons_succ]
    refine wpAnyH_take (i := 9) (oi := ⟨some 26, _, _, _, _, _⟩) (v := ?vvb8) rfl (by kernel_rfl) (by kernel_rfl) (by kernel_rfl) (fun _ _ _ h => h) (Or.inl ⟨by kernel_rfl, ?hyvb8⟩) (by assumption) ?restvb8
    case hyvb8 => (intro W hSw; (try dsimp only at hSw); go_simp; try with_reducible rfl)
    case' restvb8 => try simp only [Act.put, List.setIfInBounds_toArray, List.set_cons_zero, List.set_cons_succ]
    refine wpAnyH_take (i := 10) (oi := ⟨some 27, _, _, _, _, _⟩) (v := ?vvb9) rfl (by kernel_rfl) (by kernel_rfl) (by kernel_rfl) (fun _ _ _ h => h) (Or.inl ⟨by kernel_rfl, ?hyvb9⟩) (by assumption) ?restvb9
    case hyvb9 => (intro W hSw; (try dsimp only at hSw); go_simp; try with_reducible rfl)
    case' restvb9 => try simp only [Act.put, List.setIfInBounds_toArray, List.set_cons_zero, List.set_cons_succ]
    refine wpAnyH_take (i := 11) (oi := ⟨some 28, _, _, _, _, _⟩) (v := undef) rfl (by kernel_rfl) (by kernel_rfl) (by kernel_rfl) (fun _ _ _ h => h) (Or.inr ⟨by kernel_rfl, rfl⟩) (by assumption) ?restvb10
    case' restvb10 => try simp only [Act.put, List.setIfInBounds_toArray, List.set_cons_zero, List.set_cons_succ]
    refine wpAnyH_take (i := 12) (oi := ⟨some 29, _, _, _, _, _⟩) (v := undef) rfl (by kernel_rfl) (by kernel_rfl) (by kernel_rfl) (fun _ _ _ h => h) (Or.inr ⟨by kernel_rfl, rfl⟩) (by assumption) ?restvb11
    case' restvb11 => try simp only [Act.put, List.setIfInBounds_toArray, List.set_cons_zero, List.set_cons_succ]
    refine wpAnyH_take (i := 13) (oi := ⟨some 30, _, _, _, _, _⟩) (v := undef) rfl (by kernel_rfl) (by kernel_rfl) (by kernel_rfl) (fun _ _ _ h => h) (Or.inr ⟨by kernel_rfl, rfl⟩) (by assumption) ?restvb12
    case' restvb12 => try simp only [Act.put, List.setIfInBounds_toArray, List.set_cons_zero, List.set_cons_succ]
    refine wpAnyH_take (i := 14) (oi := ⟨some 31, _, _, _, _, _⟩) (v := undef) rfl (by kernel_rfl) (by kernel_rfl) (by kernel_rfl) (fun _ _ _ h => h) (Or.inr ⟨by kernel_rfl, rfl⟩) (by assumption) ?restvb13
    case' restvb13 => try simp only [Act.put, List.setIfInBounds_toArray, List.set_cons_zero, List.set_cons_succ]
    refine wpAnyH_take (i := 15) (oi := ⟨some 32, _, _, _, _, _⟩) (v := undef) rfl (by kernel_rfl) (by kernel_rfl) (by kernel_rfl) (fun _ _ _ h => h) (Or.inr ⟨by kernel_rfl, rfl⟩) (by assumption) ?restvb14
    case' restvb14 => try simp only [Act.put, List.setIfInBounds_toArray, List.set_cons_zero, List.set_cons_succ]
    refine wpAnyH_take (i := 16) (oi := ⟨some 33, _, _, _, _, _⟩) (v := undef) rfl (by kernel_rfl) (by kernel_rfl) (by kernel_rfl) (fun _ _ _ h => h) (Or.inr ⟨by kernel_rfl, rfl⟩) (by assumption) ?restvb15
    case' restvb15 => try simp only [Act.put, List.setIfInBounds_toArray, List.set_cons_zero, List.set_cons_succ]
    refine wpAnyH_take (i := 17) (oi := ⟨some 34, _, _, _, _, _⟩) (v := undef) rfl (by kernel_rfl) (by kernel_rfl) (by kernel_rfl) (fun _ _ _ h => h) (Or.inr ⟨by kernel_rfl, rfl⟩) (by assumption) ?restvb16
    case' restvb16 => try simp only [Act.put, List.setIfInBounds_toArray, List.set_cons_zero, List.set_cons_succ]
    refine wpAnyH_take (i := 18) (oi := ⟨some 35, _, _, _, _, _⟩) (v := undef) rfl (by kernel_rfl) (by kernel_rfl) (by kernel_rfl) (fun _ _ _ h => h) (Or.inr ⟨by kernel_rfl, rfl⟩) (by assumption) ?restvb17
    case' restvb17 => try simp only [Act.put, List.setIfInBounds_toArray, List.set_cons_zero, List.set_cons_succ]
    refine wpAnyH_take (i := 19) (oi := ⟨some 36, _, _, _, _, _⟩) (v := undef) rfl (by kernel_rfl) (by kernel_rfl) (by kernel_rfl) (fun _ _ _ h => h) (Or.inr ⟨by kernel_rfl, rfl⟩) (by assumption) ?restvb18
    case' restvb18 => try simp only [Act.put, List.setIfInBounds_toArray, List.set_cons_zero, List.set_cons_succ]
    refine wpAnyH_take (i := 20) (oi := ⟨some 37, _, _, _, _, _⟩) (v := undef) rfl (by kernel_rfl) (by kernel_rfl) (by kernel_rfl) (fun _ _ _ h => h) (Or.inr ⟨by kernel_rfl, rfl⟩) (by assumption) ?restvb19
    case' restvb19 => try simp only [Act.put, List.setIfInBounds_toArray, List.set_cons_zero, List.set_cons_succ]
    refine wpAnyH_take (i := 21) (oi := ⟨some 38, _, _, _, _, _⟩) (v := ?vvb20) rfl (by kernel_rfl) (by kernel_rfl) (by kernel_rfl) (fun _ _ _ h => h) (Or.inl ⟨by kernel_rfl, ?hyvb20⟩) (by assumption) ?restvb20
    case hyvb20 => (intro W hSw; (try dsimp only at hSw); go_simp; try with_reducible rfl)
    case' restvb20 => try simp only [Act.put, List.setIfInBounds_toArray, List.set_cons_zero, List.set_cons_succ]
    refine wpAnyH_take (i := 22) (oi := ⟨some 9, _, _, _, _, _⟩) (v := ?vvb21) rfl (by kernel_rfl) (by kernel_rfl) (by kernel_rfl) (fun _ _ _ h => h) (Or.inl ⟨by kernel_rfl, ?hyvb21⟩) (by assumption) ?restvb21
    case hyvb21 => (intro W hSw; (try dsimp only at hSw); go_simp; try with_reducible rfl)
    case' restvb21 => try simp only [Act.put, List.setIfInBounds_toArray, List.set_cons_zero, List.set_cons_succ]
    refine wpAnyH_done (by kernel_rfl) ?_ _
    go_wp2
    go_ret
    exact RetV.int (by rw [HR.out]; rfl) (hd0.trans (hSWvb2.mono hd0.size))
end Go.Proofs
