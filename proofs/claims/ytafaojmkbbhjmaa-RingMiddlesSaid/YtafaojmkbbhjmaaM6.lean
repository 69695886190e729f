/- Middle, walked. -/
import Derived.Test.YtafaojmkbbhjmaaM5
set_option linter.unusedVariables false
set_option linter.unusedSimpArgs false
namespace Go.Proofs
open Go.RowKit Go.Proofs.Mp

def midR (l : List Pt) : Option Int := if chkE l = 0 then mdR l (bnd l) else none
def midP (l : List Pt) : Pt := mdP l (midR l)
theorem bndTo_vp {l : List Pt} (hv : allVp l) (h0 : 0 < l.length) : ∀ k, k ≤ l.length → -1048576 ≤ (bndTo l k).x0 ∧ (bndTo l k).x1 ≤ 1048576 ∧ -1048576 ≤ (bndTo l k).y0 ∧ (bndTo l k).y1 ≤ 1048576 ∧ (bndTo l k).x0 ≤ (bndTo l k).x1 ∧ (bndTo l k).y0 ≤ (bndTo l k).y1 := by
  intro k
  induction k with
  | zero =>
    intro _
    obtain ⟨h1, h2, h3, h4⟩ := hv 0 h0
    unfold bndTo
    dsimp only
    omega
  | succ k ih =>
    intro hk
    obtain ⟨h1, h2, h3, h4⟩ := hv k (by omega)
    have := ih (by omega)
    rw [show bndTo l (k + 1) = bStep (bndTo l k) l[k]! from rfl]
    unfold bStep
    dsimp only
    omega
theorem bnd_vp {l : List Pt} (hv : allVp l) (h0 : 0 < l.length) : -1048576 ≤ (bnd l).x0 ∧ (bnd l).x1 ≤ 1048576 ∧ -1048576 ≤ (bnd l).y0 ∧ (bnd l).y1 ≤ 1048576 ∧ (bnd l).x0 ≤ (bnd l).x1 ∧ (bnd l).y0 ≤ (bnd l).y1 := by
  unfold bnd
  rw [if_neg (by omega)]
  exact bndTo_vp hv h0 _ (Nat.le_refl _)
theorem chkE_zero {l : List Pt} (h : chkE l = 0) : polyE l = 0 := by
  unfold chkE at h
  split at h
  · assumption
  · exact h

set_option maxRecDepth 100000 in
set_option maxHeartbeats 2000000 in
theorem ring_middle (A : Option Addr) (c : Nat) (l : List Pt) (w : World) (hmax : l.length ≤ 1000000000000) (hR : RdR w A l) :
    Calls Try.prog 18 #[.slice A l.length c] w (RetV w (.tuple #[aggP (midP l), .bool (midR l).isSome])) := by
  have hmf : ∀ (fn : Fn) (first cap : Array Value) (w : World), (Instr.makeFunc fn first cap).run Try.prog w = .ok (.func fn first cap) w := fun _ _ _ _ => rfl
  have hb0 : Below w.heap.size w (w.alloc (.cells #[.int .i64 0, .int .i64 0] 32)) := bw1 _ _
  have hbp : BoxP (w.alloc (.cells #[.int .i64 0, .int .i64 0] 32)) w.heap.size (0, 0) := BoxP.new w (0, 0)
  have cC := Lib.hid (ring_check A c l _ hmax (hR.below hb0))
  by_cases h0 : chkE l = 0
  · obtain ⟨hv, hn3, hn⟩ := polyE_zero (chkE_zero h0)
    have HR1 := Lib.hid (show midR l = mdR l (bnd l) by unfold midR; rw [if_pos h0])
    have HP1 := Lib.hid (show midP l = mdP l (midR l) from rfl)
    obtain ⟨x1, x2, x3, x4, x5, x6⟩ := bnd_vp hv (by omega)
    have cB := Lib.hid fun W (hb : Below w.heap.size w W) => ring_bounds A c l W hmax (hR.below hb)
    have cS := Lib.hid fun W (hb : Below w.heap.size w W) => ring_search A c l (bnd l) W hn hv x3 x4 x6 (hR.below hb)
    rw [h0] at cC
    clear hR hv h0 x1 x2 x3 x4 x5 x6
    rw [← HR1.out, ← HP1.out] at cS
    clear HR1 HP1
    generalize midP l = p at *
    generalize (midR l).isSome = z at *
    generalize bnd l = b at *
    obtain ⟨p1, p2⟩ := p
    unfold aggP aggO at *
    dsimp only at *
    go_enter Try.func18, Try.ntmps18
    go_wp2_with fail
    refine cC.out.mono ?_
    rintro e w1 ⟨rfl, hb1⟩
    generalize (w.alloc (.cells #[.int .i64 0, .int .i64 0] 32)) = w0 at *
    have hbp1 := hbp.below hb1
    have hb01 := hb0.trans (hb1.mono hb0.size)
    clear hbp hb1
    go_wp2_with fail
    refine (cB.out _ hb01).mono ?_
    rintro e w2 ⟨rfl, hb2⟩
    have hbp2 := hbp1.below hb2
    have hb02 := hb01.trans (hb2.mono hb01.size)
    clear hbp1 hb2
    go_wp2_with fail
    refine (cS.out _ hb02).mono ?_
    rintro e w3 ⟨rfl, hb3⟩
    have hbp3 := hbp2.below hb3
    have hb03 := hb02.trans (hb3.mono hb02.size)
    clear hbp2 hb3
    have hfin := hbp3.set (p1, p2)
    have HFB := Lib.hid (below_setP hb03 (m := w.heap.size) (q := (p1, p2)) (Nat.le_refl _))
    obtain ⟨k1, k2, f1, f2, l1⟩ := hbp3.cel
    dsimp only at k1 k2
    clear hb0 hb01 hb02 hb03 hbp3
    go_wp2_with fail
    have q1 := hfin.c0
    have q2 := hfin.c1
    refine bodyPost_ret (v := .tuple #[.agg #[.int .i64 p1, .int .i64 p2], .bool z]) (by simp only [setP] at q1 q2; simp [results, Try.results18, go_sem, q1, q2]) rfl ?_
    exact ⟨rfl, HFB.out⟩
  · have HR1 := Lib.hid (show midR l = none by unfold midR; rw [if_neg h0])
    have HP1 := Lib.hid (show midP l = (0, 0) by unfold midP; rw [HR1.out]; rfl)
    have hz : (chkE l != 0) = true := by simp [h0]
    rw [HP1.out, HR1.out]
    clear hR HR1 HP1 h0
    generalize chkE l = E at *
    unfold aggP
    dsimp only
    go_enter Try.func18, Try.ntmps18
    go_wp2_with fail
    refine cC.out.mono ?_
    rintro e w1 ⟨rfl, hb1⟩
    generalize (w.alloc (.cells #[.int .i64 0, .int .i64 0] 32)) = w0 at *
    have hbp1 := hbp.below hb1
    have hb01 := hb0.trans (hb1.mono hb0.size)
    have hfin := hbp1.set (0, 0)
    have HFB := Lib.hid (below_setP hb01 (m := w.heap.size) (q := (0, 0)) (Nat.le_refl _))
    obtain ⟨k1, k2, f1, f2, l1⟩ := hbp1.cel
    dsimp only at k1 k2
    clear hb0 hb01 hb1 hbp hbp1
    go_wp2_with fail
    have q1 := hfin.c0
    have q2 := hfin.c1
    refine bodyPost_ret (v := .tuple #[.agg #[.int .i64 0, .int .i64 0], .bool false]) (by simp only [setP] at q1 q2; simp [results, Try.results18, go_sem, q1, q2]) rfl ?_
    exact ⟨rfl, HFB.out⟩
end Go.Proofs
