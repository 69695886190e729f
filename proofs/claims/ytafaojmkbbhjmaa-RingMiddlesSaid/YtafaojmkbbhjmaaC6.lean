/- Bounds, and the reference's Bounds. -/
import Derived.Test.YtafaojmkbbhjmaaC5
import Derived.StillTailTactics
set_option linter.unusedVariables false
set_option linter.unusedSimpArgs false
namespace Go.Proofs
open Go.RowKit Go.Proofs.Mp

/-- a box -/
structure Bo where
  x0 : Int
  y0 : Int
  x1 : Int
  y1 : Int
def aggO (b : Bo) : Value := .agg #[.int .i64 b.x0, .int .i64 b.y0, .int .i64 b.x1, .int .i64 b.y1]
def celO (b : Bo) : List Value := [.int .i64 b.x0, .int .i64 b.y0, .int .i64 b.x1, .int .i64 b.y1]
def bStep (b : Bo) (p : Pt) : Bo := ⟨min b.x0 p.1, min b.y0 p.2, max b.x1 p.1, max b.y1 p.2⟩
def bndTo (l : List Pt) : Nat → Bo
  | 0 => ⟨l[0]!.1, l[0]!.2, l[0]!.1, l[0]!.2⟩
  | k + 1 => bStep (bndTo l k) l[k]!
def bnd (l : List Pt) : Bo := if l.length = 0 then ⟨0, 0, -1, -1⟩ else bndTo l l.length
theorem bndTo_one (l : List Pt) : bndTo l 1 = bndTo l 0 := by
  show bStep (bndTo l 0) l[0]! = bndTo l 0
  unfold bStep bndTo
  simp

/-- block g holds a box -/
def RowO (W : World) (g : Nat) (b : Bo) : Prop := W.heap[g]? = some (.cells #[.int .i64 b.x0, .int .i64 b.y0, .int .i64 b.x1, .int .i64 b.y1] 29 (0, 0))
theorem RowO.lt {W : World} {g : Nat} {b : Bo} (h : RowO W g b) : g < W.heap.size := (Array.getElem?_eq_some_iff.1 h).1
theorem RowO.cells {W : World} {g : Nat} {b : Bo} (h : RowO W g b) : W.cell? ⟨g, 0, none⟩ = some (.int .i64 b.x0) ∧ W.cell? ⟨g, 1, none⟩ = some (.int .i64 b.y0) ∧ W.cell? ⟨g, 2, none⟩ = some (.int .i64 b.x1) ∧ W.cell? ⟨g, 3, none⟩ = some (.int .i64 b.y1) := by
  refine ⟨?_, ?_, ?_, ?_⟩ <;> (rw [cell_of_row _ _ _ _ _ _ h]; rfl)
theorem RowO.frozen {W : World} {g : Nat} {b : Bo} (h : RowO W g b) (j : Nat) : W.frozen? ⟨g, j, none⟩ = false := frozen_of_row W g j _ 29 h
theorem RowO.below {W W' : World} {g : Nat} {b : Bo} (h : RowO W g b) (hb : Below W.heap.size W W') : RowO W' g b := (hb.block g h.lt).trans h
theorem RowO.alloc {W : World} {g : Nat} {b : Bo} (h : RowO W g b) (o : Obj) : RowO (W.alloc o) g b := h.below (bw1 _ _)
theorem RowO.drewN {W : World} {g : Nat} {b : Bo} (h : RowO W g b) (n : Nat) : RowO (W.drewN n) g b := h
theorem RowO.s0 {W : World} {g : Nat} {b : Bo} (h : RowO W g b) (z : Int) : RowO (W.setCell ⟨g, 0, none⟩ (.int .i64 z)) g ⟨z, b.y0, b.x1, b.y1⟩ := by
  unfold RowO; rw [heap_setCell_same W g 0 _ 29 _ h]; rfl
theorem RowO.s1 {W : World} {g : Nat} {b : Bo} (h : RowO W g b) (z : Int) : RowO (W.setCell ⟨g, 1, none⟩ (.int .i64 z)) g ⟨b.x0, z, b.x1, b.y1⟩ := by
  unfold RowO; rw [heap_setCell_same W g 1 _ 29 _ h]; rfl
theorem RowO.s2 {W : World} {g : Nat} {b : Bo} (h : RowO W g b) (z : Int) : RowO (W.setCell ⟨g, 2, none⟩ (.int .i64 z)) g ⟨b.x0, b.y0, z, b.y1⟩ := by
  unfold RowO; rw [heap_setCell_same W g 2 _ 29 _ h]; rfl
theorem RowO.s3 {W : World} {g : Nat} {b : Bo} (h : RowO W g b) (z : Int) : RowO (W.setCell ⟨g, 3, none⟩ (.int .i64 z)) g ⟨b.x0, b.y0, b.x1, z⟩ := by
  unfold RowO; rw [heap_setCell_same W g 3 _ 29 _ h]; rfl

theorem bnd_st1 {w wr : World} {g : Nat} {v0 v1 v2 v3 : Int} (hr : RowO wr g ⟨v0, v1, v2, v3⟩) (hb : Below g w wr) (x1 y1 z0 z2 : Int) :
    RowO (((wr.setCell ⟨g, 0, none⟩ (.int .i64 z0)).setCell ⟨g, 2, none⟩ (.int .i64 z2)).alloc (.cells #[.int .i64 x1, .int .i64 y1] 32)).drew g ⟨z0, v1, z2, v3⟩ ∧
    Below g w (((wr.setCell ⟨g, 0, none⟩ (.int .i64 z0)).setCell ⟨g, 2, none⟩ (.int .i64 z2)).alloc (.cells #[.int .i64 x1, .int .i64 y1] 32)).drew ∧
    (((wr.setCell ⟨g, 0, none⟩ (.int .i64 z0)).setCell ⟨g, 2, none⟩ (.int .i64 z2)).alloc (.cells #[.int .i64 x1, .int .i64 y1] 32)).drew.cell? ⟨wr.heap.size, 0, none⟩ = some (.int .i64 x1) ∧
    (((wr.setCell ⟨g, 0, none⟩ (.int .i64 z0)).setCell ⟨g, 2, none⟩ (.int .i64 z2)).alloc (.cells #[.int .i64 x1, .int .i64 y1] 32)).drew.cell? ⟨wr.heap.size, 1, none⟩ = some (.int .i64 y1) ∧
    wr.heap.size < (((wr.setCell ⟨g, 0, none⟩ (.int .i64 z0)).setCell ⟨g, 2, none⟩ (.int .i64 z2)).alloc (.cells #[.int .i64 x1, .int .i64 y1] 32)).drew.heap.size := by
  have h2 := (hr.s0 z0).s2 z2
  have hb2 : Below g w ((wr.setCell ⟨g, 0, none⟩ (.int .i64 z0)).setCell ⟨g, 2, none⟩ (.int .i64 z2)) := (hb.setCell (p := ⟨g, 0, none⟩) (Nat.le_refl _) _).setCell (p := ⟨g, 2, none⟩) (Nat.le_refl _) _
  have hs : ((wr.setCell ⟨g, 0, none⟩ (.int .i64 z0)).setCell ⟨g, 2, none⟩ (.int .i64 z2)).heap.size = wr.heap.size := by simp [World.setCell]
  generalize ((wr.setCell ⟨g, 0, none⟩ (.int .i64 z0)).setCell ⟨g, 2, none⟩ (.int .i64 z2)) = W at *
  obtain ⟨c1, c2⟩ := alloc2_cells W (.int .i64 x1) (.int .i64 y1) 32
  rw [hs] at c1 c2
  refine ⟨(h2.alloc _).drewN 1, below_drewN (hb2.alloc (by have := h2.lt; omega) _) 1, c1, c2, ?_⟩
  show wr.heap.size < (W.alloc _).heap.size
  rw [← hs]; simp

set_option maxRecDepth 100000 in
set_option maxHeartbeats 4000000 in
theorem ring_bounds (A : Option Addr) (c : Nat) (l : List Pt) (w : World) (hmax : l.length ≤ 1000000000000) (hR : RdR w A l) :
    Calls Try.prog 15 #[.slice A l.length c] w (RetV w (aggO (bnd l))) := by
  by_cases h0 : l.length = 0
  · have hb : bnd l = ⟨0, 0, -1, -1⟩ := by unfold bnd; rw [if_pos h0]
    rw [hb]
    unfold aggO
    dsimp only
    have hz : ((l.length : Int) == 0) = true := by rw [beq_iff_eq]; omega
    have H0 := Lib.hid h0
    clear h0
    go_enter Try.func15, Try.ntmps15
    go_wp2_with fail
    refine bodyPost_ret (v := .agg #[.int .i64 0, .int .i64 0, .int .i64 (-1), .int .i64 (-1)]) (by simp [results, Try.results15, go_sem]) rfl ?_
    exact ⟨rfl, bw1 _ _⟩
  · have hb : bnd l = bndTo l l.length := by unfold bnd; rw [if_neg h0]
    have hz : ((l.length : Int) == 0) = false := by rw [beq_eq_false_iff_ne]; omega
    have hpi : (0 : Int) < (l.length : Int) := by omega
    have hp0 : 0 < l.length := by omega
    rw [hb]
    clear hb h0
    obtain ⟨b, off, rfl, hb, hc⟩ := RdR.getAll hR (Below.refl _ _) hp0
    obtain ⟨g1, g2⟩ := hc 0 hp0
    simp only [Nat.zero_mul, Nat.add_zero] at g1 g2
    have HR := Lib.hid hR
    have HB0 := Lib.hid (show bndTo l 0 = ⟨l[0]!.1, l[0]!.2, l[0]!.1, l[0]!.2⟩ from rfl)
    rcases hzz : l[0]! with ⟨x, y⟩
    rw [hzz] at g1 g2 HB0
    clear hzz hc hR
    dsimp only at g1 g2 HB0
    have hr0 : RowO (w.alloc (.cells #[.int .i64 0, .int .i64 0, .int .i64 0, .int .i64 0] 29)).drew w.heap.size ⟨0, 0, 0, 0⟩ := heap_alloc_new w _
    have hb1 : Below w.heap.size w (w.alloc (.cells #[.int .i64 0, .int .i64 0, .int .i64 0, .int .i64 0] 29)).drew := below_drewN (bw1 w _) 1
    have q1 := (hb1.cell (p := ⟨b, off, none⟩) hb).trans g1
    have q2 := (hb1.cell (p := ⟨b, off + 1, none⟩) hb).trans g2
    clear g1 g2
    go_enter Try.func15, Try.ntmps15
    go_upto_region 3 with fail
    go_cut [] (fun wx => RowO wx w.heap.size ⟨x, y, x, y⟩ ∧ Below w.heap.size w wx)
    case first =>
      refine wp_region_still_tail 17 (by kernel_rfl) (by kernel_rfl) ?_
      simp only [List.take_succ_cons, List.take_zero, List.drop_succ_cons, List.drop_zero]
      change wpStill _ _ (w.alloc (.cells #[.int .i64 0, .int .i64 0, .int .i64 0, .int .i64 0] 29)).drew (fun a' => wpList _ _ _ _ a' (w.alloc (.cells #[.int .i64 0, .int .i64 0, .int .i64 0, .int .i64 0] 29)).drew) _ _
      generalize (w.alloc (.cells #[.int .i64 0, .int .i64 0, .int .i64 0, .int .i64 0] 29)).drew = w2 at *
      repeat still_step
      refine wpStill_nil ?_
      obtain ⟨k1, k2, k3, k4⟩ := hr0.cells
      have f0 := hr0.frozen 0
      have f1 := hr0.frozen 1
      have f2 := hr0.frozen 2
      have f3 := hr0.frozen 3
      have hg := hr0.lt
      go_wp2_with fail
      go_meet
      exact ⟨(((hr0.s0 x).s1 y).s2 x).s3 y, (((hb1.setCell (p := ⟨w.heap.size, 0, none⟩) (Nat.le_refl _) _).setCell (p := ⟨w.heap.size, 1, none⟩) (Nat.le_refl _) _).setCell (p := ⟨w.heap.size, 2, none⟩) (Nat.le_refl _) _).setCell (p := ⟨w.heap.size, 3, none⟩) (Nat.le_refl _) _⟩
    case rest =>
      obtain ⟨hr1, hb2⟩ := hcut
      clear hr0 hb1 q1 q2
      rw [← HB0.out] at hr1
      go_wp2_with fail
      go_loopw [28] (fun i wr => ∃ k : Nat, k ≤ l.length ∧ i = .int .i64 k ∧ RowO wr w.heap.size (bndTo l k) ∧ Below w.heap.size w wr) (fun i _ => l.length - (intOf i).toNat)
      case atStart => exact ⟨0, by omega, rfl, hr1, hb2⟩
      case round =>
        obtain ⟨k, hk, rfl, hr, hbw⟩ := hrel
        clear hr1 hb2
        by_cases hlt : k < l.length
        rotate_left
        · obtain rfl : k = l.length := by omega
          obtain ⟨bo, hbo⟩ : ∃ bo, bndTo l l.length = bo := ⟨_, rfl⟩
          rw [hbo] at hr
          have HBO := Lib.hid hbo
          clear hbo
          obtain ⟨k1, k2, k3, k4⟩ := hr.cells
          have f0 := hr.frozen 0
          have f1 := hr.frozen 1
          have f2 := hr.frozen 2
          have f3 := hr.frozen 3
          unfold aggO
          go_wp2_with fail
          have hrE := (((hr.s0 bo.x0).s1 bo.y0).s2 bo.x1).s3 bo.y1
          obtain ⟨m1, m2, m3, m4⟩ := hrE.cells
          refine bodyPost_ret (v := .agg #[.int .i64 bo.x0, .int .i64 bo.y0, .int .i64 bo.x1, .int .i64 bo.y1]) (by simp [results, Try.results15, go_sem, m1, m2, m3, m4]) rfl ?_
          exact ⟨by rw [HBO.out]; rfl, (((hbw.setCell (p := ⟨w.heap.size, 0, none⟩) (Nat.le_refl _) _).setCell (p := ⟨w.heap.size, 1, none⟩) (Nat.le_refl _) _).setCell (p := ⟨w.heap.size, 2, none⟩) (Nat.le_refl _) _).setCell (p := ⟨w.heap.size, 3, none⟩) (Nat.le_refl _) _⟩
        · obtain ⟨b', off', he, hb', hc⟩ := RdR.getAll HR.out hbw hlt
          injection he with he
          injection he with e1 e2 e3
          subst e1
          subst e2
          obtain ⟨g1, g2⟩ := hc k hlt
          have hkl : (k : Int) < (l.length : Int) := by omega
          have hk0 : (0 : Int) ≤ (k : Int) := by omega
          have hne : b ≠ w.heap.size := by omega
          have hbs := hbw.size
          have hbr : b < wr.heap.size := by omega
          have HS := Lib.hid (show bndTo l (k + 1) = bStep (bndTo l k) l[k]! from rfl)
          obtain ⟨⟨x1, y1⟩, hx⟩ : ∃ p, l[k]! = p := ⟨_, rfl⟩
          obtain ⟨⟨v0, v1, v2, v3⟩, hv⟩ : ∃ p, bndTo l k = p := ⟨_, rfl⟩
          rw [hx] at g1 g2 HS
          rw [hv] at hr HS
          clear hx hv hc
          unfold bStep at HS
          dsimp only at g1 g2 HS
          have hpn : wr.heap.size ≠ w.heap.size := by have := hr.lt; omega
          obtain ⟨k1, k2, k3, k4⟩ := hr.cells
          have f0 := hr.frozen 0
          have f2 := hr.frozen 2
          have hg := hr.lt
          dsimp only at k1 k2 k3 k4
          go_upto_region 7 with fail
          go_cut [] (fun wx => RowO wx w.heap.size ⟨min v0 x1, v1, max v2 x1, v3⟩ ∧ Below w.heap.size w wx ∧ wx.cell? ⟨wr.heap.size, 0, none⟩ = some (.int .i64 x1) ∧ wx.cell? ⟨wr.heap.size, 1, none⟩ = some (.int .i64 y1) ∧ wr.heap.size < wx.heap.size)
          case first =>
           go_region
           all_goals go_wp2_with fail
           all_goals go_meet
           all_goals exact bnd_st1 hr hbw x1 y1 _ _
          case rest =>
           obtain ⟨hr8, hb8, z1, z2, z3⟩ := hcut
           clear k1 k2 k3 k4 f0 f2 g1 g2 hr
           obtain ⟨k1, k2, k3, k4⟩ := hr8.cells
           have f1 := hr8.frozen 1
           have f3 := hr8.frozen 3
           have hg2 := hr8.lt
           dsimp only at k1 k2 k3 k4
           go_upto_region 8 with fail
           have HN := Lib.hid (show RowO ((wc.setCell ⟨w.heap.size, 1, none⟩ (.int .i64 (min v1 y1))).setCell ⟨w.heap.size, 3, none⟩ (.int .i64 (max v3 y1))) w.heap.size (bndTo l (k + 1)) by rw [HS.out]; exact (hr8.s1 (min v1 y1)).s3 (max v3 y1))
           have HB9 := Lib.hid ((hb8.setCell (p := ⟨w.heap.size, 1, none⟩) (Nat.le_refl _) (.int .i64 (min v1 y1))).setCell (p := ⟨w.heap.size, 3, none⟩) (Nat.le_refl _) (.int .i64 (max v3 y1)))
           go_region
           all_goals
             go_wp2
             go_roundw
             case rel => exact ⟨k + 1, by omega, by go_num, HN.out.drewN 1, below_drewN HB9.out 1⟩
             case measure => simp [intOf]; omega
end Go.Proofs
