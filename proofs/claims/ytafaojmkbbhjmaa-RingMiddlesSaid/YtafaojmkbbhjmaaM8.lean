/- The reference's Run, walked. -/
import Derived.Test.YtafaojmkbbhjmaaM1
import Derived.StillTailTactics
set_option linter.unusedVariables false
set_option linter.unusedSimpArgs false
namespace Go.Proofs
open Go.RowKit Go.Proofs.Mp

/-- the run that grows, and the longest one so far -/
def nowTo (ps : List (Int × Int)) : Nat → Int × Int
  | 0 => (0, 0)
  | k + 1 => if 0 < k ∧ (nowTo ps k).2 = ps[k]!.1 then ((nowTo ps k).1, ps[k]!.2) else ps[k]!
def bestTo (ps : List (Int × Int)) : Nat → Int × Int
  | 0 => (0, 0)
  | k + 1 => if (bestTo ps k).2 - (bestTo ps k).1 < (nowTo ps (k + 1)).2 - (nowTo ps (k + 1)).1 then nowTo ps (k + 1) else bestTo ps k
theorem bestTo_in {ps : List (Int × Int)} (h : ∀ j, j < ps.length → inR50 ps[j]!) : ∀ k, k ≤ ps.length → inR50 (bestTo ps k) ∧ inR50 (nowTo ps k)
  | 0, _ => by constructor <;> (unfold inR50; simp [bestTo, nowTo])
  | k + 1, hk => by
    obtain ⟨h1, h2⟩ := bestTo_in h k (by omega)
    have h3 := h k (by omega)
    have hn : inR50 (nowTo ps (k + 1)) := by
      unfold nowTo
      split
      · unfold inR50 at *; dsimp only; omega
      · exact h3
    refine ⟨?_, hn⟩
    rw [show bestTo ps (k + 1) = if (bestTo ps k).2 - (bestTo ps k).1 < (nowTo ps (k + 1)).2 - (nowTo ps (k + 1)).1 then nowTo ps (k + 1) else bestTo ps k from rfl]
    split
    · exact hn
    · exact h1
section
variable {W : World} {n m : Nat} {p q : Int × Int}
theorem BoxR.other (h : BoxR W n p) (hne : n ≠ m) (i : Nat) (u : Value) : BoxR (W.setCell ⟨m, i, none⟩ u) n p := by
  unfold BoxR
  rw [heap_setCell_other _ _ _ _ (by simpa using hne)]
  exact h
theorem BoxR.hi (h : BoxR W n p) (z : Int) : BoxR (W.setCell ⟨n, 1, none⟩ (.int .i64 z)) n (p.1, z) := by
  have h1 := heap_setCell_same W n 1 _ 52 (.int .i64 z) h
  unfold BoxR
  rw [h1]
  rfl
end
/-- the three boxes of Run: its result, the best run, the run that grows -/
structure Run3 (w W : World) (p q : Int × Int) : Prop where
  r : BoxR W w.heap.size (0, 0)
  b : BoxR W (w.heap.size + 1) p
  n : BoxR W (w.heap.size + 2) q
  bw : Below w.heap.size w W
theorem Run3.start (w : World) : Run3 w (((((w.alloc (.cells #[.int .i64 0, .int .i64 0] 52)).alloc (.cells #[.int .i64 0, .int .i64 0] 52)).alloc (.cells #[.int .i64 0, .int .i64 0] 52)))) (0, 0) (0, 0) := by
  have h1 : BoxR (w.alloc (.cells #[.int .i64 0, .int .i64 0] 52)) w.heap.size (0, 0) := heap_alloc_new w _
  have h2 : BoxR ((w.alloc (.cells #[.int .i64 0, .int .i64 0] 52)).alloc (.cells #[.int .i64 0, .int .i64 0] 52)) (w.heap.size + 1) (0, 0) := by
    have := heap_alloc_new (w.alloc (.cells #[.int .i64 0, .int .i64 0] 52)) (.cells #[.int .i64 0, .int .i64 0] 52)
    rwa [show (w.alloc (.cells #[.int .i64 0, .int .i64 0] 52)).heap.size = w.heap.size + 1 by simp] at this
  have h3 : BoxR (((w.alloc (.cells #[.int .i64 0, .int .i64 0] 52)).alloc (.cells #[.int .i64 0, .int .i64 0] 52)).alloc (.cells #[.int .i64 0, .int .i64 0] 52)) (w.heap.size + 2) (0, 0) := by
    have := heap_alloc_new ((w.alloc (.cells #[.int .i64 0, .int .i64 0] 52)).alloc (.cells #[.int .i64 0, .int .i64 0] 52)) (.cells #[.int .i64 0, .int .i64 0] 52)
    rwa [show ((w.alloc (.cells #[.int .i64 0, .int .i64 0] 52)).alloc (.cells #[.int .i64 0, .int .i64 0] 52)).heap.size = w.heap.size + 2 by simp] at this
  exact ⟨(h1.alloc _).alloc _, h2.alloc _, h3, ((Below.refl _ _).alloc (Nat.le_refl _) _ |>.alloc (by simp) _).alloc (by simp; omega) _⟩
section
variable {w W : World} {p q : Int × Int}
theorem Run3.hi (h : Run3 w W p q) (z : Int) : Run3 w (W.setCell ⟨w.heap.size + 2, 1, none⟩ (.int .i64 z)) p (q.1, z) :=
  ⟨h.r.other (by omega) _ _, h.b.other (by omega) _ _, h.n.hi z, h.bw.setCell (p := ⟨w.heap.size + 2, 1, none⟩) (by dsimp only; omega) _⟩
theorem Run3.now (h : Run3 w W p q) (z : Int × Int) : Run3 w (setP W (w.heap.size + 2) z) p z :=
  ⟨(h.r.other (by omega) _ _).other (by omega) _ _, (h.b.other (by omega) _ _).other (by omega) _ _, h.n.set z, below_setP h.bw (by omega)⟩
theorem Run3.best (h : Run3 w W p q) (z : Int × Int) : Run3 w (setP W (w.heap.size + 1) z) z q :=
  ⟨(h.r.other (by omega) _ _).other (by omega) _ _, h.b.set z, (h.n.other (by omega) _ _).other (by omega) _ _, below_setP h.bw (by omega)⟩
end

set_option maxRecDepth 100000 in
set_option maxHeartbeats 4000000 in
theorem ref_run (A : Option Addr) (c : Nat) (ps : List (Int × Int)) (w : World) (hmax : ps.length ≤ 1000000000000) (hin : ∀ j, j < ps.length → inR50 ps[j]!) (hR : RdR w A ps) :
    Calls Try.prog 36 #[.slice A ps.length c] w (RetV w (.tuple #[.agg #[.int .i64 (bestTo ps ps.length).1, .int .i64 (bestTo ps ps.length).2], .bool (decide ((bestTo ps ps.length).1 < (bestTo ps ps.length).2))])) := by
  have HI := Lib.hid hin
  have HL := Lib.hid (bestTo_in hin)
  have HR := Lib.hid hR
  clear hin hR
  have hr0 := Run3.start w
  go_enter Try.func36, Try.ntmps36
  go_wp2_with fail
  go_loopw [6] (fun i wr => ∃ k : Nat, k ≤ ps.length ∧ i = .int .i64 k ∧ Run3 w wr (bestTo ps k) (nowTo ps k)) (fun i _ => ps.length - (intOf i).toNat)
  case atStart => exact ⟨0, by omega, rfl, hr0⟩
  case round =>
    obtain ⟨k, hk, rfl, hr⟩ := hrel
    clear hr0
    have hbw := hr.bw
    have hbs := hbw.size
    by_cases hlt : k < ps.length
    · obtain ⟨b, off, rfl, hb, h1, h2⟩ := RdR.get HR.out hbw hlt
      have hbr : b < wr.heap.size := Nat.lt_of_lt_of_le hb hbs
      have hz := HI.out k hlt
      obtain ⟨hl, hn⟩ := HL.out k (by omega)
      obtain ⟨hl', hn'⟩ := HL.out (k + 1) (by omega)
      have HB := Lib.hid (show bestTo ps (k + 1) = if (bestTo ps k).2 - (bestTo ps k).1 < (nowTo ps (k + 1)).2 - (nowTo ps (k + 1)).1 then nowTo ps (k + 1) else bestTo ps k from rfl)
      have HN := Lib.hid (show nowTo ps (k + 1) = if 0 < k ∧ (nowTo ps k).2 = ps[k]!.1 then ((nowTo ps k).1, ps[k]!.2) else ps[k]! from rfl)
      obtain ⟨⟨x, y⟩, hx⟩ : ∃ p, ps[k]! = p := ⟨_, rfl⟩
      obtain ⟨⟨u, v⟩, hu⟩ : ∃ p, bestTo ps k = p := ⟨_, rfl⟩
      obtain ⟨⟨n1, n2⟩, hnn⟩ : ∃ p, nowTo ps k = p := ⟨_, rfl⟩
      rw [hx] at h1 h2 hz HN
      rw [hu] at hr hl HB
      rw [hnn] at hr hn HN
      clear hx hu hnn
      unfold inR50 at hz hl hn
      dsimp only at h1 h2 hz hl hn HB HN
      obtain ⟨z1, z2, z3, z4⟩ := hz
      obtain ⟨y1, y2, y3, y4⟩ := hl
      obtain ⟨w1, w2, w3, w4⟩ := hn
      obtain ⟨k1, k2, f1, f2, l1⟩ := hr.b.cel
      obtain ⟨k3, k4, f3, f4, l2⟩ := hr.n.cel
      dsimp only at k1 k2 k3 k4
      by_cases hj : 0 < k ∧ n2 = x
      · have HN2 := Lib.hid (HN.out.trans (if_pos hj))
        obtain ⟨hj0, hj1⟩ := hj
        have e1 : (n2 == x) = true := by rw [beq_iff_eq]; exact hj1
        clear HN hj1
        rw [HN2.out] at HB
        dsimp only at HB
        go_upto_region 5 with fail
        go_quiet (fail)
        have hd : Run3 w (wr.drewN nq) (u, v) (n1, n2) := ⟨hr.r, hr.b, hr.n, below_drewN hbw _⟩
        have g1 : (wr.drewN nq).cell? ⟨b, off + k * 2, none⟩ = some (Value.int .i64 x) := h1
        have g2 : (wr.drewN nq).cell? ⟨b, off + k * 2 + 1, none⟩ = some (Value.int .i64 y) := h2
        have hbr2 : b < (wr.drewN nq).heap.size := hbr
        clear h1 h2 hr hbw hbs k1 k2 k3 k4 f1 f2 f3 f4 l1 l2 hbr
        generalize wr.drewN nq = wx at *
        obtain ⟨k3, k4, f3, f4, l2⟩ := hd.n.cel
        dsimp only at k3 k4
        go_upto_region 8 with fail
        have hS := hd.hi y
        unfold setP at hS
        dsimp only at hS
        clear hd k3 k4 f3 f4 l2 g1 g2 hbr2
        generalize (wx.setCell ⟨w.heap.size + 2, 1, none⟩ (Value.int .i64 y)) = wz at *
        obtain ⟨k1, k2, f1, f2, l1⟩ := hS.b.cel
        obtain ⟨k3, k4, f3, f4, l2⟩ := hS.n.cel
        dsimp only at k1 k2 k3 k4
        by_cases hc : v - u < y - n1
        · have HB2 := Lib.hid (HB.out.trans (if_pos hc))
          have HT := Lib.hid (hS.best (n1, y))
          clear HB hS
          go_wp2
          go_roundw
          case rel => exact ⟨k + 1, by omega, by go_num, by rw [HB2.out, HN2.out]; exact HT.out⟩
          case measure => simp [intOf]; omega
        · have HB2 := Lib.hid (HB.out.trans (if_neg hc))
          have HT := Lib.hid hS
          clear HB hS
          go_wp2
          go_roundw
          case rel => exact ⟨k + 1, by omega, by go_num, by rw [HB2.out, HN2.out]; exact HT.out⟩
          case measure => simp [intOf]; omega
      · have HN2 := Lib.hid (HN.out.trans (if_neg hj))
        clear HN
        rw [HN2.out] at HB
        dsimp only at HB
        by_cases h0 : k = 0
        · have e0 : ¬ 0 < k := by omega
          have H0 := Lib.hid h0
          clear h0 hj
          go_upto_region 5 with fail
          go_quiet (fail)
          have hd : Run3 w (wr.drewN nq) (u, v) (n1, n2) := ⟨hr.r, hr.b, hr.n, below_drewN hbw _⟩
          have g1 : (wr.drewN nq).cell? ⟨b, off + k * 2, none⟩ = some (Value.int .i64 x) := h1
          have g2 : (wr.drewN nq).cell? ⟨b, off + k * 2 + 1, none⟩ = some (Value.int .i64 y) := h2
          have hbr2 : b < (wr.drewN nq).heap.size := hbr
          clear h1 h2 hr hbw hbs k1 k2 k3 k4 f1 f2 f3 f4 l1 l2 hbr
          generalize wr.drewN nq = wx at *
          obtain ⟨k3, k4, f3, f4, l2⟩ := hd.n.cel
          dsimp only at k3 k4
          go_upto_region 8 with fail
          have hS := hd.now (x, y)
          unfold setP at hS
          dsimp only at hS
          clear hd k3 k4 f3 f4 l2 g1 g2 hbr2
          generalize ((wx.setCell ⟨w.heap.size + 2, 0, none⟩ (Value.int .i64 x)).setCell ⟨w.heap.size + 2, 1, none⟩ (Value.int .i64 y)) = wz at *
          obtain ⟨k1, k2, f1, f2, l1⟩ := hS.b.cel
          obtain ⟨k3, k4, f3, f4, l2⟩ := hS.n.cel
          dsimp only at k1 k2 k3 k4
          by_cases hc : v - u < y - x
          · have HB2 := Lib.hid (HB.out.trans (if_pos hc))
            have HT := Lib.hid (hS.best (x, y))
            clear HB hS
            go_wp2
            go_roundw
            case rel => exact ⟨k + 1, by omega, by go_num, by rw [HB2.out, HN2.out]; exact HT.out⟩
            case measure => simp [intOf]; omega
          · have HB2 := Lib.hid (HB.out.trans (if_neg hc))
            have HT := Lib.hid hS
            clear HB hS
            go_wp2
            go_roundw
            case rel => exact ⟨k + 1, by omega, by go_num, by rw [HB2.out, HN2.out]; exact HT.out⟩
            case measure => simp [intOf]; omega
        · have e1 : (n2 == x) = false := by rw [beq_eq_false_iff_ne]; intro h; exact hj ⟨by omega, h⟩
          have e0 : 0 < k := by omega
          clear hj
          go_upto_region 5 with fail
          go_quiet (fail)
          have hd : Run3 w (wr.drewN nq) (u, v) (n1, n2) := ⟨hr.r, hr.b, hr.n, below_drewN hbw _⟩
          have g1 : (wr.drewN nq).cell? ⟨b, off + k * 2, none⟩ = some (Value.int .i64 x) := h1
          have g2 : (wr.drewN nq).cell? ⟨b, off + k * 2 + 1, none⟩ = some (Value.int .i64 y) := h2
          have hbr2 : b < (wr.drewN nq).heap.size := hbr
          clear h1 h2 hr hbw hbs k1 k2 k3 k4 f1 f2 f3 f4 l1 l2 hbr
          generalize wr.drewN nq = wx at *
          obtain ⟨k3, k4, f3, f4, l2⟩ := hd.n.cel
          dsimp only at k3 k4
          go_upto_region 8 with fail
          have hS := hd.now (x, y)
          unfold setP at hS
          dsimp only at hS
          clear hd k3 k4 f3 f4 l2 g1 g2 hbr2
          generalize ((wx.setCell ⟨w.heap.size + 2, 0, none⟩ (Value.int .i64 x)).setCell ⟨w.heap.size + 2, 1, none⟩ (Value.int .i64 y)) = wz at *
          obtain ⟨k1, k2, f1, f2, l1⟩ := hS.b.cel
          obtain ⟨k3, k4, f3, f4, l2⟩ := hS.n.cel
          dsimp only at k1 k2 k3 k4
          by_cases hc : v - u < y - x
          · have HB2 := Lib.hid (HB.out.trans (if_pos hc))
            have HT := Lib.hid (hS.best (x, y))
            clear HB hS
            go_wp2
            go_roundw
            case rel => exact ⟨k + 1, by omega, by go_num, by rw [HB2.out, HN2.out]; exact HT.out⟩
            case measure => simp [intOf]; omega
          · have HB2 := Lib.hid (HB.out.trans (if_neg hc))
            have HT := Lib.hid hS
            clear HB hS
            go_wp2
            go_roundw
            case rel => exact ⟨k + 1, by omega, by go_num, by rw [HB2.out, HN2.out]; exact HT.out⟩
            case measure => simp [intOf]; omega
    · obtain rfl : k = ps.length := by omega
      clear hk
      obtain ⟨⟨u, v⟩, hu⟩ : ∃ p, bestTo ps ps.length = p := ⟨_, rfl⟩
      rw [hu] at hr
      have HU := Lib.hid hu
      clear hu
      generalize nowTo ps ps.length = nn at *
      obtain ⟨k1, k2, f1, f2, l1⟩ := hr.b.cel
      obtain ⟨k3, k4, f3, f4, l2⟩ := hr.r.cel
      dsimp only at k1 k2 k3 k4
      have hfin := hr.r.set (u, v)
      have HFB := Lib.hid (below_setP hr.bw (m := w.heap.size) (q := (u, v)) (Nat.le_refl _))
      go_upto_region 10 with fail
      clear hr hbw hbs
      go_region
      all_goals go_wp2_with fail
      all_goals
        have q1 := hfin.c0
        have q2 := hfin.c1
        refine bodyPost_ret (v := .tuple #[.agg #[.int .i64 u, .int .i64 v], .bool (decide (u < v))]) (by simp only [setP] at q1 q2; simp [results, Try.results36, go_sem, q1, q2]) rfl ?_
        exact ⟨by rw [HU.out], below_drewN HFB.out 1⟩
end Go.Proofs
