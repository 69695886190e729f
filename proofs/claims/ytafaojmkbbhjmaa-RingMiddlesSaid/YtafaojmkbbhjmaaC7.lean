/- The reference's Bounds; a box that contains a point; low. -/
import Derived.Test.YtafaojmkbbhjmaaC6
set_option linter.unusedVariables false
set_option linter.unusedSimpArgs false
namespace Go.Proofs
open Go.RowKit Go.Proofs.Mp

theorem RowO.other {W : World} {g m : Nat} {b : Bo} (h : RowO W g b) (hne : g ≠ m) (j : Nat) (z : Value) : RowO (W.setCell ⟨m, j, none⟩ z) g b := by
  unfold RowO
  rw [heap_setCell_other _ _ _ _ (by simpa using hne)]
  exact h
theorem two_rows (w : World) (a b : Bo) : RowO ((w.alloc (.cells #[.int .i64 a.x0, .int .i64 a.y0, .int .i64 a.x1, .int .i64 a.y1] 29)).alloc (.cells #[.int .i64 b.x0, .int .i64 b.y0, .int .i64 b.x1, .int .i64 b.y1] 29)).drew w.heap.size a ∧
    RowO ((w.alloc (.cells #[.int .i64 a.x0, .int .i64 a.y0, .int .i64 a.x1, .int .i64 a.y1] 29)).alloc (.cells #[.int .i64 b.x0, .int .i64 b.y0, .int .i64 b.x1, .int .i64 b.y1] 29)).drew (w.heap.size + 1) b ∧
    Below w.heap.size w ((w.alloc (.cells #[.int .i64 a.x0, .int .i64 a.y0, .int .i64 a.x1, .int .i64 a.y1] 29)).alloc (.cells #[.int .i64 b.x0, .int .i64 b.y0, .int .i64 b.x1, .int .i64 b.y1] 29)).drew := by
  refine ⟨?_, ?_, ?_⟩
  · have h : RowO (w.alloc (.cells #[.int .i64 a.x0, .int .i64 a.y0, .int .i64 a.x1, .int .i64 a.y1] 29)) w.heap.size a := heap_alloc_new w _
    exact (h.alloc _).drewN 1
  · have h := heap_alloc_new (w.alloc (.cells #[.int .i64 a.x0, .int .i64 a.y0, .int .i64 a.x1, .int .i64 a.y1] 29)) (.cells #[.int .i64 b.x0, .int .i64 b.y0, .int .i64 b.x1, .int .i64 b.y1] 29)
    rw [show (w.alloc (.cells #[.int .i64 a.x0, .int .i64 a.y0, .int .i64 a.x1, .int .i64 a.y1] 29)).heap.size = w.heap.size + 1 by simp] at h
    exact h
  · exact below_drewN (((Below.refl _ _).alloc (Nat.le_refl _) _).alloc (by simp) _) 1

set_option maxRecDepth 100000 in
set_option maxHeartbeats 4000000 in
theorem ref_bounds (A : Option Addr) (c : Nat) (l : List Pt) (w : World) (hmax : l.length ≤ 9223372036854775807) (hR : RdR w A l) :
    Calls Try.prog 16 #[.slice A l.length c] w (RetV w (aggO (bnd l))) := by
  by_cases h0 : l.length = 0
  · have hb : bnd l = ⟨0, 0, -1, -1⟩ := by unfold bnd; rw [if_pos h0]
    rw [hb]
    unfold aggO
    dsimp only
    have hz : ((l.length : Int) == 0) = true := by rw [beq_iff_eq]; omega
    have H0 := Lib.hid h0
    clear h0
    go_enter Try.func16, Try.ntmps16
    go_wp2_with fail
    refine bodyPost_ret (v := .agg #[.int .i64 0, .int .i64 0, .int .i64 (-1), .int .i64 (-1)]) (by simp [results, Try.results16, go_sem]) rfl ?_
    exact ⟨rfl, bw1 _ _⟩
  · have hb : bnd l = bndTo l l.length := by unfold bnd; rw [if_neg h0]
    have hz : ((l.length : Int) == 0) = false := by rw [beq_eq_false_iff_ne]; omega
    have hpi : (0 : Int) < (l.length : Int) := by omega
    have hp0 : 0 < l.length := by omega
    rw [hb]
    clear hb h0
    obtain ⟨b, off, rfl, hb, hc⟩ := RdR.getAll hR (Below.refl _ _) hp0
    obtain ⟨g1, g2⟩ := hc 0 hp0
    simp only [Nat.zero_mul, Nat.add_zero] at g1 g2
    have HR := Lib.hid hR
    have HB0 := Lib.hid (show bndTo l 1 = ⟨l[0]!.1, l[0]!.2, l[0]!.1, l[0]!.2⟩ from bndTo_one l)
    rcases hzz : l[0]! with ⟨x, y⟩
    rw [hzz] at g1 g2 HB0
    clear hzz hc hR
    dsimp only at g1 g2 HB0
    go_enter Try.func16, Try.ntmps16
    go_upto_region 3 with fail
    go_cut [3] (fun v3 wx => v3 = .pointer (some ⟨w.heap.size + 1, 0, none⟩) ∧ RowO wx w.heap.size ⟨0, 0, 0, 0⟩ ∧ RowO wx (w.heap.size + 1) ⟨x, y, x, y⟩ ∧ Below w.heap.size w wx)
    case first =>
      go_region
      all_goals go_wp2_with fail
      all_goals go_meet
      all_goals exact ⟨rfl, two_rows w ⟨0, 0, 0, 0⟩ ⟨x, y, x, y⟩⟩
    case rest =>
      obtain ⟨rfl, hr0, hr1, hb1⟩ := hcut
      rw [← HB0.out] at hr1
      clear g1 g2
      go_wp2_with fail
      go_loopw [4] (fun i wr => ∃ k : Nat, 1 ≤ k ∧ k ≤ l.length ∧ i = .int .i64 k ∧ RowO wr w.heap.size ⟨0, 0, 0, 0⟩ ∧ RowO wr (w.heap.size + 1) (bndTo l k) ∧ Below w.heap.size w wr) (fun i _ => l.length - (intOf i).toNat)
      case atStart => exact ⟨1, by omega, by omega, rfl, hr0, hr1, hb1⟩
      case round =>
        obtain ⟨k, hk1, hk, rfl, hr, hr2, hbw⟩ := hrel
        clear hr0 hr1 hb1
        by_cases hlt : k < l.length
        rotate_left
        · obtain rfl : k = l.length := by omega
          obtain ⟨bo, hbo⟩ : ∃ bo, bndTo l l.length = bo := ⟨_, rfl⟩
          rw [hbo] at hr2
          have HBO := Lib.hid hbo
          clear hbo
          obtain ⟨k1, k2, k3, k4⟩ := hr2.cells
          obtain ⟨j1, j2, j3, j4⟩ := hr.cells
          dsimp only at j1 j2 j3 j4
          have f0 := hr.frozen 0
          have f1 := hr.frozen 1
          have f2 := hr.frozen 2
          have f3 := hr.frozen 3
          have hrE := (((hr.s0 bo.x0).s1 bo.y0).s2 bo.x1).s3 bo.y1
          have HBE := Lib.hid ((((hbw.setCell (p := ⟨w.heap.size, 0, none⟩) (Nat.le_refl _) (.int .i64 bo.x0)).setCell (p := ⟨w.heap.size, 1, none⟩) (Nat.le_refl _) (.int .i64 bo.y0)).setCell (p := ⟨w.heap.size, 2, none⟩) (Nat.le_refl _) (.int .i64 bo.x1)).setCell (p := ⟨w.heap.size, 3, none⟩) (Nat.le_refl _) (.int .i64 bo.y1))
          go_wp2_with fail
          obtain ⟨m1, m2, m3, m4⟩ := hrE.cells
          refine bodyPost_ret (v := .agg #[.int .i64 bo.x0, .int .i64 bo.y0, .int .i64 bo.x1, .int .i64 bo.y1]) (by simp [results, Try.results16, go_sem, m1, m2, m3, m4]) rfl ?_
          exact ⟨by rw [HBO.out]; rfl, HBE.out⟩
        · obtain ⟨b', off', he, hb', hc⟩ := RdR.getAll HR.out hbw hlt
          injection he with he
          injection he with e1 e2 e3
          subst e1
          subst e2
          obtain ⟨g1, g2⟩ := hc k hlt
          have hkl : (k : Int) < (l.length : Int) := by omega
          have hk0 : (0 : Int) ≤ (k : Int) := by omega
          have hdk : decide ((k : Int) < (l.length : Int)) = true := decide_eq_true hkl
          have hbs := hbw.size
          have hbr : b < wr.heap.size := by omega
          have HS := Lib.hid (show bndTo l (k + 1) = bStep (bndTo l k) l[k]! from rfl)
          obtain ⟨⟨x1, y1⟩, hx⟩ : ∃ p, l[k]! = p := ⟨_, rfl⟩
          obtain ⟨⟨v0, v1, v2, v3⟩, hv⟩ : ∃ p, bndTo l k = p := ⟨_, rfl⟩
          rw [hx] at g1 g2 HS
          rw [hv] at hr2 HS
          clear hx hv hc
          unfold bStep at HS
          dsimp only at g1 g2 HS
          have hr2' : RowO wr.drew (w.heap.size + 1) ⟨v0, v1, v2, v3⟩ := hr2
          have hr' : RowO wr.drew w.heap.size ⟨0, 0, 0, 0⟩ := hr
          have hbd : Below w.heap.size w wr.drew := below_drewN hbw 1
          have q1 : wr.drew.cell? ⟨b, off + k * 2, none⟩ = some (.int .i64 x1) := g1
          have q2 : wr.drew.cell? ⟨b, off + k * 2 + 1, none⟩ = some (.int .i64 y1) := g2
          clear g1 g2 hr hr2 hbw hbs hbr
          go_upto_region 7 with fail
          refine wp_region_still_tail 33 (by kernel_rfl) (by kernel_rfl) ?_
          simp only [List.take_succ_cons, List.take_zero, List.drop_succ_cons, List.drop_zero]
          change wpStill _ _ wr.drew (fun a' => wpList _ _ _ _ a' wr.drew) _ _
          generalize wr.drew = w2 at *
          obtain ⟨k1, k2, k3, k4⟩ := hr2'.cells
          have f0 := hr2'.frozen 0
          have f1 := hr2'.frozen 1
          have f2 := hr2'.frozen 2
          have f3 := hr2'.frozen 3
          dsimp only at k1 k2 k3 k4
          repeat still_step
          refine wpStill_nil ?_
          have HN := Lib.hid (show RowO ((((w2.setCell ⟨w.heap.size + 1, 0, none⟩ (.int .i64 (min v0 x1))).setCell ⟨w.heap.size + 1, 1, none⟩ (.int .i64 (min v1 y1))).setCell ⟨w.heap.size + 1, 2, none⟩ (.int .i64 (max v2 x1))).setCell ⟨w.heap.size + 1, 3, none⟩ (.int .i64 (max v3 y1))) (w.heap.size + 1) (bndTo l (k + 1)) by rw [HS.out]; exact (((hr2'.s0 (min v0 x1)).s1 (min v1 y1)).s2 (max v2 x1)).s3 (max v3 y1))
          have HB9 := Lib.hid ((((hbd.setCell (p := ⟨w.heap.size + 1, 0, none⟩) (Nat.le_succ _) (.int .i64 (min v0 x1))).setCell (p := ⟨w.heap.size + 1, 1, none⟩) (Nat.le_succ _) (.int .i64 (min v1 y1))).setCell (p := ⟨w.heap.size + 1, 2, none⟩) (Nat.le_succ _) (.int .i64 (max v2 x1))).setCell (p := ⟨w.heap.size + 1, 3, none⟩) (Nat.le_succ _) (.int .i64 (max v3 y1)))
          have HO := Lib.hid ((((hr'.other (by omega : w.heap.size ≠ w.heap.size + 1) 0 (.int .i64 (min v0 x1))).other (by omega : w.heap.size ≠ w.heap.size + 1) 1 (.int .i64 (min v1 y1))).other (by omega : w.heap.size ≠ w.heap.size + 1) 2 (.int .i64 (max v2 x1))).other (by omega : w.heap.size ≠ w.heap.size + 1) 3 (.int .i64 (max v3 y1)))
          go_wp2
          go_roundw
          case rel => exact ⟨k + 1, by omega, by omega, by go_num, HO.out, HN.out, HB9.out⟩
          case measure => simp [intOf]; omega

set_option maxHeartbeats 1000000 in
theorem geom_in (b : Bo) (p : Pt) (w : World) : Calls Try.prog 25 #[aggO b, aggP p] w (RetV w (.bool (decide (b.x0 ≤ p.1 ∧ p.1 ≤ b.x1 ∧ b.y0 ≤ p.2 ∧ p.2 ≤ b.y1)))) := by
  obtain ⟨v0, v1, v2, v3⟩ := b
  obtain ⟨x, y⟩ := p
  unfold aggO aggP
  dsimp only
  have bw2 : ∀ o1 o2, Below w.heap.size w ((w.alloc o1).alloc o2) := fun o1 o2 => ((Below.refl _ _).alloc (Nat.le_refl _) _).alloc (by simp) _
  by_cases h1 : v0 ≤ x
  rotate_left
  · go_enter Try.func25, Try.ntmps25
    go_wp2
    go_ret
    exact RetV.bool (by symm; first | (apply decide_eq_false; omega) | (simp; intros; omega)) (bw2 _ _)
  by_cases h2 : x ≤ v2
  rotate_left
  · go_enter Try.func25, Try.ntmps25
    go_wp2
    go_ret
    exact RetV.bool (by symm; first | (apply decide_eq_false; omega) | (simp; intros; omega)) (bw2 _ _)
  by_cases h3 : v1 ≤ y
  rotate_left
  · go_enter Try.func25, Try.ntmps25
    go_wp2
    go_ret
    exact RetV.bool (by symm; first | (apply decide_eq_false; omega) | (simp; intros; omega)) (bw2 _ _)
  go_enter Try.func25, Try.ntmps25
  go_wp2
  go_ret
  exact RetV.bool (by simp [h1, h2, h3]) (bw2 _ _)

def lowB (l : List Pt) : Bool := decide (l.length ≤ 24 ∧ -1099511627776 ≤ (bnd l).y0 ∧ (bnd l).y1 ≤ 1099511627776 ∧ (bnd l).y1 - (bnd l).y0 ≤ 3000)
theorem bStep_ge (b : Bo) (p : Pt) (h : b.y0 ≤ b.y1) : (bStep b p).y0 ≤ (bStep b p).y1 := by unfold bStep; dsimp only; omega
theorem bndTo_ge (l : List Pt) : ∀ k, (bndTo l k).y0 ≤ (bndTo l k).y1
  | 0 => Int.le_refl _
  | k + 1 => bStep_ge _ _ (bndTo_ge l k)
theorem bnd_ge (l : List Pt) : (bnd l).y0 ≤ (bnd l).y1 + 1 := by
  unfold bnd
  split
  · decide
  · have := bndTo_ge l l.length; omega

set_option maxHeartbeats 1000000 in
theorem law_low (A : Option Addr) (c : Nat) (l : List Pt) (w : World) (hmax : l.length ≤ 9223372036854775807) (hR : RdR w A l) :
    Calls Try.prog 17 #[.slice A l.length c] w (RetV w (.bool (lowB l))) := by
  have cB := Lib.hid (ref_bounds A c l w hmax hR)
  have hr : lowB l = decide (l.length ≤ 24 ∧ -1099511627776 ≤ (bnd l).y0 ∧ (bnd l).y1 ≤ 1099511627776 ∧ (bnd l).y1 - (bnd l).y0 ≤ 3000) := rfl
  have hge := bnd_ge l
  clear hR
  generalize bnd l = b at *
  generalize lowB l = r at *
  obtain ⟨v0, v1, v2, v3⟩ := b
  unfold aggO at cB
  dsimp only at *
  by_cases h1 : l.length ≤ 24
  rotate_left
  · have HR := Lib.hid (hr.trans (decide_eq_false (by omega)))
    have hd : decide ((l.length : Int) ≤ 24) = false := decide_eq_false (by omega)
    clear hr
    go_enter Try.func17, Try.ntmps17
    go_wp2_with fail
    refine cB.out.mono ?_
    rintro e w1 ⟨rfl, hb1⟩
    go_wp2
    go_ret
    exact RetV.bool HR.out.symm (below_step hb1 (bw1 _ _))
  have hd : decide ((l.length : Int) ≤ 24) = true := decide_eq_true (by omega)
  have H1 := Lib.hid h1
  clear h1
  by_cases h2 : -1099511627776 ≤ v1
  rotate_left
  · have HR := Lib.hid (hr.trans (decide_eq_false (by omega)))
    clear hr
    go_enter Try.func17, Try.ntmps17
    go_wp2_with fail
    refine cB.out.mono ?_
    rintro e w1 ⟨rfl, hb1⟩
    go_wp2
    go_ret
    exact RetV.bool HR.out.symm (below_step hb1 (bw1 _ _))
  by_cases h3 : v3 ≤ 1099511627776
  rotate_left
  · have HR := Lib.hid (hr.trans (decide_eq_false (by omega)))
    clear hr
    go_enter Try.func17, Try.ntmps17
    go_wp2_with fail
    refine cB.out.mono ?_
    rintro e w1 ⟨rfl, hb1⟩
    go_wp2
    go_ret
    exact RetV.bool HR.out.symm (below_step hb1 (bw1 _ _))
  by_cases h4 : v3 - v1 ≤ 3000
  · have HR := Lib.hid (hr.trans (decide_eq_true (by have := H1.out; omega)))
    clear hr
    go_enter Try.func17, Try.ntmps17
    go_wp2_with fail
    refine cB.out.mono ?_
    rintro e w1 ⟨rfl, hb1⟩
    go_wp2
    go_ret
    exact RetV.bool (by first | exact HR.out.symm | (rw [HR.out]; exact decide_eq_true h4)) (below_step hb1 (bw1 _ _))
  · have HR := Lib.hid (hr.trans (decide_eq_false (by omega)))
    clear hr
    go_enter Try.func17, Try.ntmps17
    go_wp2_with fail
    refine cB.out.mono ?_
    rintro e w1 ⟨rfl, hb1⟩
    go_wp2
    go_ret
    exact RetV.bool (by first | exact HR.out.symm | (rw [HR.out]; exact decide_eq_false (by omega))) (below_step hb1 (bw1 _ _))
end Go.Proofs
