/- The reference's rows and breaks, walked. -/
import Derived.Test.YtafaojmkbbhjmaaP9
set_option linter.unusedVariables false
set_option linter.unusedSimpArgs false
namespace Go.Proofs
open Go.RowKit Go.Proofs.Mp

theorem tmod2 (k : Nat) : ((k : Int)).tmod 2 = ((k % 2 : Nat) : Int) := rfl
theorem tdiv2 (k : Nat) : ((k : Int)).tdiv 2 = ((k / 2 : Nat) : Int) := rfl
theorem tdiv2' (k : Nat) : ((k : Int) + 1).tdiv 2 = (((k + 1) / 2 : Nat) : Int) := rfl

set_option maxRecDepth 100000 in
set_option maxHeartbeats 1000000 in
theorem ref_rows (y0 y1 : Int) (k : Nat) (w : World) (h1 : -1048576 ≤ y0) (h2 : y0 ≤ y1) (h3 : y1 ≤ 1048576) (hk : k ≤ 10000000) :
    Calls Try.prog 35 #[.int .i64 y0, .int .i64 y1, .int .i64 k] w (RetV w (.int .i64 (ysq (flo (y0 + y1) 2) k))) := by
  have cF := Lib.hid (ref_floor (y0 + y1) 2 w (by omega) (by omega) (by omega) (by omega) (by omega))
  have hm : -1048577 ≤ flo (y0 + y1) 2 ∧ flo (y0 + y1) 2 ≤ 1048577 := by
    have := flo_spec (a := y0 + y1) (b := 2) (by omega)
    omega
  generalize flo (y0 + y1) 2 = m at *
  have hr := tmod2 k
  have hq := tdiv2 k
  have hq' := tdiv2' k
  have hw : IntKind.i64.wrap (((k / 2 : Nat) : Int)) = ((k / 2 : Nat) : Int) := IntWalk.i64_in _ (by omega)
  have hw' : IntKind.i64.wrap ((((k + 1) / 2 : Nat) : Int)) = (((k + 1) / 2 : Nat) : Int) := IntWalk.i64_in _ (by omega)
  have hb1 : (((k + 1) / 2 : Nat) : Int) ≤ 10000001 := by omega
  have hb2 : ((k / 2 : Nat) : Int) ≤ 10000001 := by omega
  have hb3 : 0 ≤ (((k + 1) / 2 : Nat) : Int) := by omega
  have hb4 : 0 ≤ ((k / 2 : Nat) : Int) := by omega
  have hki : (k : Int) ≤ 10000000 := by omega
  by_cases hc : k % 2 = 1
  · have HC := Lib.hid (show ysq m k = m + (((k + 1) / 2 : Nat) : Int) by unfold ysq; rw [if_pos hc])
    rw [hc] at hr
    rw [HC.out]
    clear HC hc hq hw hb2 hb4
    generalize (k + 1) / 2 = q at *
    go_enter Try.func35, Try.ntmps35
    go_wp2_with fail
    refine cF.out.mono ?_
    rintro e w1 ⟨rfl, hb⟩
    go_wp2
    go_ret
    exact ⟨rfl, hb⟩
  · have HC := Lib.hid (show ysq m k = m - ((k / 2 : Nat) : Int) by unfold ysq; rw [if_neg hc])
    rw [show k % 2 = 0 by omega] at hr
    rw [HC.out]
    clear HC hc hq' hw' hb1 hb3
    generalize k / 2 = q at *
    go_enter Try.func35, Try.ntmps35
    go_wp2_with fail
    refine cF.out.mono ?_
    rintro e w1 ⟨rfl, hb⟩
    go_wp2
    go_ret
    exact ⟨rfl, hb⟩

theorem brk_len (y : Int) (a b : Pt) : (brk y a b).length ≤ 2 := by unfold brk; split <;> (try split) <;> simp
theorem lit_rdI (W : World) (cs : Array Value) (t : TypeId) (zs : List Int) (h : cs = (zs.flatMap Mp.encI).toArray) (n : Nat) (hn : n = W.heap.size) : RdI (W.alloc (.cells cs t)) (some ⟨n, 0, none⟩) zs := by
  subst h; subst hn
  exact Row.rd Mp.encI_len (t := t) (heap_alloc_new W _)

set_option maxRecDepth 100000 in
set_option maxHeartbeats 2000000 in
theorem ref_breaks (a b : Pt) (y : Int) (w : World) (ha : Vp a) (hb : Vp b) (hy1 : -1048576 ≤ y) (hy2 : y ≤ 1048576) :
    Calls Try.prog 53 #[aggP a, aggP b, .int .i64 y] w (RetRc 1 Mp.encI w (brk y a b)) := by
  have cF := Lib.hid fun n d W h1 h2 h3 h4 hd => ref_floor n d W h1 h2 h3 h4 hd
  have cC := Lib.hid fun n d W h1 h2 h3 h4 hd => ref_ceil n d W h1 h2 h3 h4 hd
  have HWB := Lib.hid (way_bound ha hb hy1 hy2)
  have HUB := Lib.hid (up_bound ha hb hy1 hy2)
  have HQ := Lib.hid (show brk y a b = if y < min a.2 b.2 ∨ max a.2 b.2 < y then [] else if a.2 = b.2 then [a.1, b.1] else [a.1 + flo (wayI y a b) (b.2 - a.2), a.1 + upI y a b] from rfl)
  have hB0 : Below w.heap.size w ((w.alloc (.cells #[.int .i64 a.1, .int .i64 a.2] 32)).alloc (.cells #[.int .i64 b.1, .int .i64 b.2] 32)) := ((Below.refl _ _).alloc (Nat.le_refl _) _).alloc (by simp) _
  have HB0 := Lib.hid hB0
  have hq : BoxP ((w.alloc (.cells #[.int .i64 a.1, .int .i64 a.2] 32)).alloc (.cells #[.int .i64 b.1, .int .i64 b.2] 32)) w.heap.size a ∧ BoxP ((w.alloc (.cells #[.int .i64 a.1, .int .i64 a.2] 32)).alloc (.cells #[.int .i64 b.1, .int .i64 b.2] 32)) (w.heap.size + 1) b := by
    refine ⟨(BoxP.new w a).alloc _, ?_⟩
    have := BoxP.new (w.alloc (.cells #[.int .i64 a.1, .int .i64 a.2] 32)) b
    rwa [show (w.alloc (.cells #[.int .i64 a.1, .int .i64 a.2] 32)).heap.size = w.heap.size + 1 by simp] at this
  obtain ⟨a1, a2⟩ := a
  obtain ⟨b1, b2⟩ := b
  unfold Vp at ha hb
  unfold aggP
  dsimp only at *
  obtain ⟨x1, x2, x3, x4⟩ := ha
  obtain ⟨z1, z2, z3, z4⟩ := hb
  go_enter Try.func53, Try.ntmps53
  go_upto_region 1 with fail
  generalize ((w.alloc (.cells #[.int .i64 a1, .int .i64 a2] 32)).alloc (.cells #[.int .i64 b1, .int .i64 b2] 32)) = w0 at *
  obtain ⟨hq1, hq2⟩ := hq
  obtain ⟨k1, k2, f1, f2, l1⟩ := hq1.cel
  obtain ⟨k3, k4, f3, f4, l2⟩ := hq2.cel
  dsimp only at k1 k2 k3 k4
  by_cases c1 : y < min a2 b2
  · have HR := Lib.hid (HQ.out.trans (if_pos (.inl c1)))
    clear HQ
    go_wp2
    go_ret
    exact ⟨none, 0, by rw [HR.out]; rfl, by rw [HR.out]; exact Nat.le_refl _, by rw [HR.out]; exact Rd.nil _, HB0.out⟩
  by_cases c2 : max a2 b2 < y
  · have HR := Lib.hid (HQ.out.trans (if_pos (.inr c2)))
    clear HQ
    go_wp2
    go_ret
    exact ⟨none, 0, by rw [HR.out]; rfl, by rw [HR.out]; exact Nat.le_refl _, by rw [HR.out]; exact Rd.nil _, HB0.out⟩
  have HQ2 := Lib.hid (HQ.out.trans (if_neg (by omega)))
  clear HQ
  by_cases c3 : a2 = b2
  · have e3 : (a2 == b2) = true := by rw [beq_iff_eq]; exact c3
    have HR := Lib.hid (HQ2.out.trans (if_pos c3))
    clear HQ2 c3
    go_wp2
    go_ret
    exact ⟨_, 2, by rw [HR.out]; rfl, by rw [HR.out]; exact Nat.le_refl _, by rw [HR.out]; exact lit_rdI _ _ 3 [a1, b1] rfl _ rfl, HB0.out.alloc HB0.out.size _⟩
  have e3 : (a2 == b2) = false := by rw [beq_eq_false_iff_ne]; exact c3
  have HR := Lib.hid (HQ2.out.trans (if_neg c3))
  clear HQ2
  have hd0 : b2 - a2 ≠ 0 := by omega
  obtain ⟨ub1, ub2, ub3, ub4⟩ := HUB.out hd0
  obtain ⟨wb1, wb2⟩ := HWB.out
  have cF2 := Lib.hid fun W => cF.out (wayI y (a1, a2) (b1, b2)) (b2 - a2) W (by omega) (by omega) (by omega) (by omega) hd0
  have cC2 := Lib.hid fun W => cC.out (wayI y (a1, a2) (b1, b2)) (b2 - a2) W (by omega) (by omega) (by omega) (by omega) hd0
  have hff : flo (wayI y (a1, a2) (b1, b2)) (b2 - a2) ≤ upI y (a1, a2) (b1, b2) ∧ upI y (a1, a2) (b1, b2) - 1 ≤ flo (wayI y (a1, a2) (b1, b2)) (b2 - a2) := by
    have := go_div (wayI y (a1, a2) (b1, b2)) (b2 - a2) hd0
    unfold upI
    dsimp only
    omega
  have hux : cei (wayI y (a1, a2) (b1, b2)) (b2 - a2) = upI y (a1, a2) (b1, b2) := rfl
  rw [hux] at cC2
  generalize upI y (a1, a2) (b1, b2) = u at *
  generalize flo (wayI y (a1, a2) (b1, b2)) (b2 - a2) = f at *
  have hwy : wayI y (a1, a2) (b1, b2) = (y - a2) * (b1 - a1) := by unfold wayI; rw [Int.mul_comm]
  rw [hwy] at cF2 cC2 wb1 wb2
  have hD0 := Lib.hid hd0
  clear hd0 c3 hux hwy HWB HUB cF cC ub3 ub4
  obtain ⟨ff1, ff2⟩ := hff
  have HS := Lib.hid (fun (W : World) (h : Below w0.heap.size w0 W) => (show BoxP W w.heap.size (a1, a2) ∧ BoxP W (w.heap.size + 1) (b1, b2) from ⟨hq1.below h, hq2.below h⟩))
  clear hq1 hq2
  go_wp2_with fail
  refine (cF2.out _).mono ?_
  rintro e w1 ⟨rfl, hb1⟩
  obtain ⟨hq1, hq2⟩ := HS.out _ hb1
  clear k1 k2 k3 k4 f1 f2 f3 f4 l1 l2
  obtain ⟨k1, k2, f1, f2, l1⟩ := hq1.cel
  obtain ⟨k3, k4, f3, f4, l2⟩ := hq2.cel
  dsimp only at k1 k2 k3 k4
  clear hq1 hq2
  go_wp2_with fail
  refine (cC2.out _).mono ?_
  rintro e w2 ⟨rfl, hb2⟩
  have hb12 := hb1.trans (hb2.mono hb1.size)
  have HB2 := Lib.hid (HB0.out.trans (hb12.mono HB0.out.size))
  obtain ⟨hq1, hq2⟩ := HS.out _ hb12
  clear k1 k2 k3 k4 f1 f2 f3 f4 l1 l2
  obtain ⟨k1, k2, f1, f2, l1⟩ := hq1.cel
  obtain ⟨k3, k4, f3, f4, l2⟩ := hq2.cel
  dsimp only at k1 k2 k3 k4
  clear hq1 hq2
  go_wp2
  go_ret
  exact ⟨_, 2, by rw [HR.out]; rfl, by rw [HR.out]; exact Nat.le_refl _, by rw [HR.out]; exact lit_rdI _ _ 3 [a1 + f, a1 + u] rfl _ rfl, HB2.out.alloc HB2.out.size _⟩
end Go.Proofs
