/- The reference's Point. -/
import Derived.Test.YtcfhhkdjdpkjpaaXJ10
set_option linter.unusedVariables false
set_option linter.unusedSimpArgs false
namespace Go.Proofs
open Go.RowKit Go.Proofs.Mp Go.Lib

/-- three boxes beside a grid: the result and two points -/
structure HP3 (w : World) (k : Nat) (t : Ht) (p q r : Pt) (W : World) : Prop where
  row : RowH W w.heap.size t
  r : BoxP W (w.heap.size + 1) r
  a : BoxP W k p
  b : BoxP W (k + 1) q
  hk : w.heap.size + 1 < k
  bl : Below w.heap.size w W
theorem HP3.below {w W W' : World} {k : Nat} {t : Ht} {p q r : Pt} (h : HP3 w k t p q r W) (hb : Below W.heap.size W W') : HP3 w k t p q r W' :=
  ⟨h.row.below hb, h.r.below hb, h.a.below hb, h.b.below hb, h.hk, h.bl.trans (hb.mono h.bl.size)⟩
theorem HP3.drew {w W : World} {k : Nat} {t : Ht} {p q r : Pt} (h : HP3 w k t p q r W) : HP3 w k t p q r W.drew := ⟨h.row, h.r, h.a, h.b, h.hk, h.bl.drew⟩
theorem HP3.drewN {w W : World} {k : Nat} {t : Ht} {p q r : Pt} (h : HP3 w k t p q r W) (n : Nat) : HP3 w k t p q r (W.drewN n) := ⟨h.row, h.r, h.a, h.b, h.hk, below_drewN h.bl n⟩
theorem HP3.new {w w1 : World} {t : Ht} (p q r : Pt) (hrow : RowH w1 w.heap.size t) (hr : BoxP w1 (w.heap.size + 1) r) (hb : Below w.heap.size w w1) : HP3 w w1.heap.size t p q r ((w1.alloc (.cells #[.int .i64 p.1, .int .i64 p.2] 23)).alloc (.cells #[.int .i64 q.1, .int .i64 q.2] 23)) := by
  obtain ⟨k1, k2, hb2, hz2⟩ := blk2 w1 (.cells #[.int .i64 p.1, .int .i64 p.2] 23) (.cells #[.int .i64 q.1, .int .i64 q.2] 23)
  exact ⟨hrow.below hb2, hr.below hb2, k1, k2, hr.lt, hb.trans (hb2.mono hb.size)⟩
theorem HP3.swap {w W : World} {k : Nat} {t : Ht} {p q r : Pt} (h : HP3 w k t p q r W) : HP3 w k t q p r (setP (setP W k q) (k + 1) p) := by
  have hk := h.hk
  refine ⟨?_, (h.r.other (by omega) q).other (by omega) p, (h.a.set q).other (by omega) p, (h.b.other (by omega) q).set p, h.hk, below_setP' (below_setP' h.bl (by omega) _) (by omega) _⟩
  have := h.row
  unfold RowH setP at *
  rw [heap_setCell_other _ _ _ _ (by simp <;> omega), heap_setCell_other _ _ _ _ (by simp <;> omega), heap_setCell_other _ _ _ _ (by simp <;> omega), heap_setCell_other _ _ _ _ (by simp <;> omega)]
  exact this
theorem HP3.put {w W : World} {k : Nat} {t : Ht} {p q r : Pt} (h : HP3 w k t p q r W) (z : Pt) : HP3 w k t p q z (setP W (w.heap.size + 1) z) := by
  have hk := h.hk
  refine ⟨?_, h.r.set z, h.a.other (by omega) z, h.b.other (by omega) z, h.hk, below_setP' h.bl (by omega) _⟩
  have := h.row
  unfold RowH setP at *
  rw [heap_setCell_other _ _ _ _ (by simp <;> omega), heap_setCell_other _ _ _ _ (by simp <;> omega)]
  exact this
theorem HP3.two {w W : World} {k : Nat} {t : Ht} {p q r : Pt} (h : HP3 w k t p q r W) : HP2 w k (k + 1) t p q W := ⟨h.row, h.a, h.b, h.bl⟩
theorem HP2.put {w W : World} {k : Nat} {t : Ht} {p q : Pt} (h : HP2 w k (k + 1) t p q W) (hk : w.heap.size + 1 < k) (z : Pt) : HP2 w k (k + 1) t p q (setP W (w.heap.size + 1) z) := by
  refine ⟨?_, h.a.other (by omega) z, h.b.other (by omega) z, below_setP' h.bl (by omega) _⟩
  have := h.row
  unfold RowH setP at *
  rw [heap_setCell_other _ _ _ _ (by simp <;> omega), heap_setCell_other _ _ _ _ (by simp <;> omega)]
  exact this
theorem eB_lt {W H e : Nat} (hW : 1 ≤ W) (h : isE W H e = true) : (eB W e).1 < W ∧ (eB W e).2 < H := by
  have hc : e / 3 % W < W := Nat.mod_lt _ (by omega)
  have h3 : e % 3 < 3 := Nat.mod_lt _ (by omega)
  unfold isE at h
  unfold eB
  dsimp only
  rw [Bool.and_eq_true, decide_eq_true_eq] at h
  obtain ⟨h1, h2⟩ := h
  rcases (by omega : e % 3 = 0 ∨ e % 3 = 1 ∨ e % 3 = 2) with q | q | q <;> rw [q] at h2 ⊢ <;> simp at h2 ⊢ <;> omega
/-- the lower and the higher end of an edge: column and row -/
def pLo (t : Ht) (W : Nat) (level : Int) (e : Nat) : Nat × Nat := if level ≤ t.v[e / 3]! then eB W e else eA W e
def pHi (t : Ht) (W : Nat) (level : Int) (e : Nat) : Nat × Nat := if level ≤ t.v[e / 3]! then eA W e else eB W e
/-- the crossing point, as the reference reckons it -/
theorem ptE_ref {t : Ht} {W H e : Nat} {level : Int} (g : Grd t W H) (h : isE W H e = true) :
    ptE t W level e = (t.x + ((pLo t W level e).1 : Int) * t.st + rnd ((((pHi t W level e).1 : Int) - ((pLo t W level e).1 : Int)) * t.st * (level - t.v[loE t W level e]!)) (t.v[hiE t W level e]! - t.v[loE t W level e]!),
      t.y + ((pLo t W level e).2 : Int) * t.st + rnd ((((pHi t W level e).2 : Int) - ((pLo t W level e).2 : Int)) * t.st * (level - t.v[loE t W level e]!)) (t.v[hiE t W level e]! - t.v[loE t W level e]!)) := by
  have hW := g.all.1
  have hc := eB_lt (show 1 ≤ W by omega) h
  have hA : ptA t W (e / 3) = (t.x + ((eA W e).1 : Int) * t.st, t.y + ((eA W e).2 : Int) * t.st) := rfl
  have hB : ptA t W (e / 3 + offE W e) = (t.x + ((eB W e).1 : Int) * t.st, t.y + ((eB W e).2 : Int) * t.st) := by
    rw [← eB_at]
    unfold ptA
    rw [(cell_rc hc.1).1, (cell_rc hc.1).2]
  have key : ∀ a b c : Int, c + a * t.st - (c + b * t.st) = (a - b) * t.st := fun a b c => by rw [Int.sub_mul]; omega
  unfold ptE pLo pHi loE hiE
  split
  · rw [hA, hB, key, key]
  · rw [hA, hB, key, key]
theorem step_bound {a b s : Int} (h1 : -1 ≤ a - b) (h2 : a - b ≤ 1) (h3 : 1 ≤ s) (h4 : s ≤ 1048576) : -1048576 ≤ (a - b) * s ∧ (a - b) * s ≤ 1048576 := by
  rcases (by omega : a - b = -1 ∨ a - b = 0 ∨ a - b = 1) with h | h | h <;> rw [h] <;> omega

set_option maxRecDepth 100000 in
set_option maxHeartbeats 16000000 in
theorem ref_Point (t : Ht) (W H : Nat) (level : Int) (e : Nat) (w : World) (g : Grd t W H) (he : crsB (abv t level) W H e = true) (hR : RdI w t.a t.v) :
    Calls Try.prog 22 #[aggH t, .int .i64 level, .int .i64 e] w (RetV w (aggP (ptE t W level e))) := by
  obtain ⟨a1, a2, a3, a4, a5, a6, a7, a8, a9, a10, a11⟩ := g.all
  obtain ⟨c1, c2, c3, c4⟩ := crs_ends g he
  have hlt := crs_lt he
  have hisE : isE W H e = true := by unfold crsB at he; rw [Bool.and_eq_true] at he; exact he.1
  have he1 : e ≤ 20000 := by
    have : 3 * W * H = 3 * (W * H) := Nat.mul_assoc 3 W H
    omega
  obtain ⟨hc1, hc2⟩ := eB_lt (show 1 ≤ W by omega) hisE
  have hvl := a11 _ c1
  have hvh := a11 _ c2
  have hee := edge_ends (W := W) (H := H) (e := e) (by omega) hisE
  have hP := Lib.hid (ptE_ref (level := level) g hisE)
  have hb0 := bw1 w (.cells (celH t) 26)
  have cE := Lib.hid fun (W' : World) => ref_ends t W H e W' g.w g.h (by omega) a2 he1
  have hA1 : (eA W e).1 < W := Nat.mod_lt _ (by omega)
  have hA2 : (eA W e).2 ≤ 64 := by
    have : (eA W e).2 ≤ (eB W e).2 := by unfold eA eB; dsimp only; omega
    omega
  have hAB : (eA W e).1 ≤ (eB W e).1 ∧ (eB W e).1 ≤ (eA W e).1 + 1 ∧ (eA W e).2 ≤ (eB W e).2 ∧ (eB W e).2 ≤ (eA W e).2 + 1 := by unfold eA eB; dsimp only; refine ⟨?_, ?_, ?_, ?_⟩ <;> split <;> omega
  have hLH : ((pLo t W level e).1 ≤ 64 ∧ (pLo t W level e).2 ≤ 64 ∧ (pHi t W level e).1 ≤ 64 ∧ (pHi t W level e).2 ≤ 64) ∧ (-1 ≤ ((pHi t W level e).1 : Int) - ((pLo t W level e).1 : Int) ∧ ((pHi t W level e).1 : Int) - ((pLo t W level e).1 : Int) ≤ 1) ∧
      (-1 ≤ ((pHi t W level e).2 : Int) - ((pLo t W level e).2 : Int) ∧ ((pHi t W level e).2 : Int) - ((pLo t W level e).2 : Int) ≤ 1) ∧ (pLo t W level e).2 * W + (pLo t W level e).1 = loE t W level e ∧ (pHi t W level e).2 * W + (pHi t W level e).1 = hiE t W level e := by
    have q1 := @eA_at W e
    have q2 := @eB_at W e
    unfold pLo pHi loE hiE
    split
    · exact ⟨⟨by omega, by omega, by omega, by omega⟩, ⟨by omega, by omega⟩, ⟨by omega, by omega⟩, q2, q1⟩
    · exact ⟨⟨by omega, by omega, by omega, by omega⟩, ⟨by omega, by omega⟩, ⟨by omega, by omega⟩, q1, q2⟩
  have cA := Lib.hid fun (W' : World) (hb : Below w.heap.size w W') => ref_height t W (eA W e).1 (eA W e).2 (e / 3) W' g.w a2 (by omega) hA2 (@eA_at W e) (by rw [a5]; exact hee.1) (hR.below hb)
  obtain ⟨⟨l1, l2, l3, l4⟩, ⟨m1, m2⟩, ⟨m3, m4⟩, i1, i2⟩ := hLH
  have cL := Lib.hid fun (W' : World) (hb : Below w.heap.size w W') => ref_height t W (pLo t W level e).1 (pLo t W level e).2 _ W' g.w a2 l1 l2 i1 (by rw [a5]; exact c1) (hR.below hb)
  have cH := Lib.hid fun (W' : World) (hb : Below w.heap.size w W') => ref_height t W (pHi t W level e).1 (pHi t W level e).2 _ W' g.w a2 l3 l4 i2 (by rw [a5]; exact c2) (hR.below hb)
  have HLo := Lib.hid (show pLo t W level e = if level ≤ t.v[e / 3]! then eB W e else eA W e from rfl)
  have HHi := Lib.hid (show pHi t W level e = if level ≤ t.v[e / 3]! then eA W e else eB W e from rfl)
  clear hlt hisE he1 hc1 hc2 hee hA1 hA2 hAB i1 i2 c1 c2 a11 he a5 a6 hR
  generalize eA W e = ea at *
  generalize eB W e = eb at *
  generalize okE W H e = ok at *
  generalize ptE t W level e = res at *
  generalize pLo t W level e = pl at *
  generalize pHi t W level e = ph at *
  generalize t.v[loE t W level e]! = u at *
  generalize t.v[hiE t W level e]! = vv at *
  generalize t.v[e / 3]! = z at *
  have gw := g.w
  have gh := g.h
  clear g
  obtain ⟨x, y, tw, th, st, A, c, v⟩ := t
  obtain ⟨p1, p2⟩ := pl
  obtain ⟨q1, q2⟩ := ph
  unfold aggH celH aggN aggP at *
  unfold Vp at a9
  dsimp only at *
  subst gw gh
  obtain ⟨m5, m6⟩ := step_bound m1 m2 a7 a8
  obtain ⟨m7, m8⟩ := step_bound m3 m4 a7 a8
  obtain ⟨n1, n2⟩ := hvl
  obtain ⟨n3, n4⟩ := hvh
  obtain ⟨x1, x2, y1, y2⟩ := a9
  have hx1 := mul_bound (a := ((q1 : Int) - (p1 : Int)) * st) (b := level - u) (n := 1048576) (m := 20000) m5 m6 (by omega) (by omega) (by omega)
  have hx2 := mul_bound (a := ((q2 : Int) - (p2 : Int)) * st) (b := level - u) (n := 1048576) (m := 20000) m7 m8 (by omega) (by omega) (by omega)
  obtain ⟨o1, o2⟩ := hx1
  obtain ⟨o3, o4⟩ := hx2
  have hp1 := mul_bound (a := (p1 : Int)) (b := st) (n := 64) (m := 1048576) (by omega) (by omega) (by omega) (by omega) (by omega)
  have hp2 := mul_bound (a := (p2 : Int)) (b := st) (n := 64) (m := 1048576) (by omega) (by omega) (by omega) (by omega) (by omega)
  obtain ⟨o5, o6⟩ := hp1
  obtain ⟨o7, o8⟩ := hp2
  have cX := Lib.hid fun W' => ref_rounded (((q1 : Int) - (p1 : Int)) * st * (level - u)) (vv - u) W' (by omega) (by omega) (by omega) (by omega)
  have cY := Lib.hid fun W' => ref_rounded (((q2 : Int) - (p2 : Int)) * st * (level - u)) (vv - u) W' (by omega) (by omega) (by omega) (by omega)
  have hwx : IntKind.i64.wrap (((q1 : Int) - (p1 : Int)) * st * (level - u)) = ((q1 : Int) - (p1 : Int)) * st * (level - u) := IntWalk.i64_in _ (by omega)
  have hwy : IntKind.i64.wrap (((q2 : Int) - (p2 : Int)) * st * (level - u)) = ((q2 : Int) - (p2 : Int)) * st * (level - u) := IntWalk.i64_in _ (by omega)
  have hwa : IntKind.i64.wrap (((q1 : Int) - (p1 : Int)) * st) = ((q1 : Int) - (p1 : Int)) * st := IntWalk.i64_in _ (by omega)
  have hwb : IntKind.i64.wrap (((q2 : Int) - (p2 : Int)) * st) = ((q2 : Int) - (p2 : Int)) * st := IntWalk.i64_in _ (by omega)
  have hwk : IntKind.i64.wrap ((q1 : Int) - (p1 : Int)) = (q1 : Int) - (p1 : Int) := IntWalk.i64_in _ (by omega)
  have hwl : IntKind.i64.wrap ((q2 : Int) - (p2 : Int)) = (q2 : Int) - (p2 : Int) := IntWalk.i64_in _ (by omega)
  have hwc : IntKind.i64.wrap (level - u) = level - u := IntWalk.i64_in _ (by omega)
  have hwd : IntKind.i64.wrap (vv - u) = vv - u := IntWalk.i64_in _ (by omega)
  have hwe : IntKind.i64.wrap ((p1 : Int) * st) = (p1 : Int) * st := IntWalk.i64_in _ (by omega)
  have hwf : IntKind.i64.wrap ((p2 : Int) * st) = (p2 : Int) * st := IntWalk.i64_in _ (by omega)
  have hwg : IntKind.i64.wrap (x + (p1 : Int) * st) = x + (p1 : Int) * st := IntWalk.i64_in _ (by omega)
  have hwh : IntKind.i64.wrap (y + (p2 : Int) * st) = y + (p2 : Int) * st := IntWalk.i64_in _ (by omega)
  have hr1 := rnd_near (a := ((q1 : Int) - (p1 : Int)) * st * (level - u)) (b := vv - u) (by omega)
  have hr2 := rnd_near (a := ((q2 : Int) - (p2 : Int)) * st * (level - u)) (b := vv - u) (by omega)
  obtain ⟨rx, hrx⟩ : ∃ r, rnd (((q1 : Int) - (p1 : Int)) * st * (level - u)) (vv - u) = r := ⟨_, rfl⟩
  obtain ⟨ry, hry⟩ : ∃ r, rnd (((q2 : Int) - (p2 : Int)) * st * (level - u)) (vv - u) = r := ⟨_, rfl⟩
  rw [hrx] at hr1 cX hP
  rw [hry] at hr2 cY hP
  clear hrx hry
  have ab1 : absI (((q1 : Int) - (p1 : Int)) * st * (level - u)) ≤ 41943040000 := by unfold absI; split <;> omega
  have ab2 : absI (((q2 : Int) - (p2 : Int)) * st * (level - u)) ≤ 41943040000 := by unfold absI; split <;> omega
  have qq1 : -10000000000000 ≤ rx ∧ rx ≤ 10000000000000 := by omega
  have qq2 : -10000000000000 ≤ ry ∧ ry ≤ 10000000000000 := by omega
  obtain ⟨q11, q12⟩ := qq1
  obtain ⟨q21, q22⟩ := qq2
  clear hr1 hr2 ab1 ab2
  have hwi : IntKind.i64.wrap (x + (p1 : Int) * st + rx) = x + (p1 : Int) * st + rx := IntWalk.i64_in _ (by omega)
  have hwj : IntKind.i64.wrap (y + (p2 : Int) * st + ry) = y + (p2 : Int) * st + ry := IntWalk.i64_in _ (by omega)
  obtain ⟨k1, k2, hB, hz⟩ := blk2 w (.cells #[.int .i64 x, .int .i64 y, .int .i64 W, .int .i64 H, .int .i64 st, .slice A v.length c] 26) (.cells #[.int .i64 0, .int .i64 0] 23)
  have hrow : RowH _ w.heap.size ⟨x, y, W, H, st, A, c, v⟩ := k1
  have hbr : BoxP _ (w.heap.size + 1) (0, 0) := k2
  clear k1 k2 hb0
  go_enter Try.func22, Try.ntmps22
  go_upto_region 1 with fail
  generalize ((w.alloc (.cells #[.int .i64 x, .int .i64 y, .int .i64 W, .int .i64 H, .int .i64 st, .slice A v.length c] 26)).alloc (.cells #[.int .i64 0, .int .i64 0] 23)) = w0 at *
  obtain ⟨d0, d1, d2, d3, d4, d5⟩ := hrow.cells
  dsimp only at d0 d1 d2 d3 d4 d5
  go_wp2_with fail
  refine (cE.out w0).mono ?_
  rintro e1 w1 ⟨rfl, hb1⟩
  have hM := HP3.new ((ea.1 : Int), (ea.2 : Int)) ((eb.1 : Int), (eb.2 : Int)) (0, 0) (hrow.below hb1) (hbr.below hb1) (hB.trans (hb1.mono (by omega)))
  dsimp only at hM
  clear d0 d1 d2 d3 d4 d5 hb1 hrow hbr hB hz cE
  go_upto_region 2 with fail
  generalize w1.heap.size = k1 at *
  generalize ((w1.alloc (.cells #[.int .i64 ea.1, .int .i64 ea.2] 23)).alloc (.cells #[.int .i64 eb.1, .int .i64 eb.2] 23)) = w2 at *
  obtain ⟨d0, d1, d2, d3, d4, d5⟩ := hM.row.cells
  obtain ⟨j1, j2, _, _, _⟩ := hM.a.cel
  dsimp only at d0 d1 d2 d3 d4 d5 j1 j2
  go_wp2_with fail
  refine (cA.out w2 hM.bl).mono ?_
  rintro e2 w3 ⟨rfl, hb2⟩
  have hM3 := hM.below hb2
  clear d0 d1 d2 d3 d4 d5 j1 j2 hM hb2 cA
  go_upto_if 25 with fail
  have HL2 := Lib.hid (show (p1, p2) = if decide (level ≤ z) = true then eb else ea by rw [HLo.out]; simp only [decide_eq_true_eq])
  have HH2 := Lib.hid (show (q1, q2) = if decide (level ≤ z) = true then ea else eb by rw [HHi.out]; simp only [decide_eq_true_eq])
  generalize decide (level ≤ z) = dq at *
  clear HLo HHi
  go_cut [] (fun wc => HP3 w k1 ⟨x, y, W, H, st, A, c, v⟩ ((p1 : Int), (p2 : Int)) ((q1 : Int), (q2 : Int)) (0, 0) wc)
  case first =>
    clear cX cY cL cH hwk hwl hwx hwy hwa hwb hwc hwd hwe hwf hwg hwh hwi hwj
    have HSw := Lib.hid hM3.swap
    obtain ⟨j1, j2, j3, j4, _⟩ := hM3.a.cel
    obtain ⟨j6, j7, j8, j9, _⟩ := hM3.b.cel
    dsimp only at j1 j2 j6 j7
    have HM := Lib.hid hM3
    clear hM3
    obtain ⟨ea1, ea2⟩ := ea
    obtain ⟨eb1, eb2⟩ := eb
    dsimp only at *
    cases dq
    · have e1 : (p1, p2) = (ea1, ea2) := HL2.out
      have e2 : (q1, q2) = (eb1, eb2) := HH2.out
      injection e1 with e1 e1'
      injection e2 with e2 e2'
      subst e1 e1' e2 e2'
      go_wp2
      go_meet
      exact HM.out
    · have e1 : (p1, p2) = (eb1, eb2) := HL2.out
      have e2 : (q1, q2) = (ea1, ea2) := HH2.out
      injection e1 with e1 e1'
      injection e2 with e2 e2'
      subst e1 e1' e2 e2'
      go_wp2
      go_meet
      exact HSw.out
  case rest =>
    clear hM3 HL2 HH2
    generalize wc = w4 at *
    go_upto_region 4 with fail
    have hS0 := hcut.drew
    clear hcut
    refine wp_region_held_drew (S := (fun W' : World => HP3 w k1 ⟨x, y, W, H, st, A, c, v⟩ ((p1 : Int), (p2 : Int)) ((q1 : Int), (q2 : Int)) (0, 0) W')) (by kernel_rfl) hS0 (fun hHeld => ?_)
    clear hHeld
    generalize w4.drew = wzra at *
    refine wpAnyH_take (i := 0) (oi := ⟨some 28, _, _, _, _, _⟩) (v := ?vra1) rfl (by kernel_rfl) (by kernel_rfl) (by kernel_rfl) (fun _ _ _ h => h) (Or.inl ⟨by kernel_rfl, ?hyra1⟩) (by assumption) ?restra1
    case hyra1 => (intro W hSw; obtain ⟨d0, d1, d2, d3, d4, d5⟩ := hSw.row.cells; obtain ⟨j1, j2, _, _, _⟩ := hSw.a.cel; obtain ⟨j6, j7, _, _, _⟩ := hSw.b.cel; dsimp only at d0 d1 d2 d3 d4 d5 j1 j2 j6 j7; clear hSw; (try dsimp only at hSw); go_simp; try with_reducible rfl)
    case' restra1 => try simp only [Act.put, List.setIfInBounds_toArray, List.set_cons_zero, List.set_cons_succ]
    refine wpAnyH_take (i := 1) (oi := ⟨some 29, _, _, _, _, _⟩) (v := ?vra2) rfl (by kernel_rfl) (by kernel_rfl) (by kernel_rfl) (fun _ _ _ h => h) (Or.inl ⟨by kernel_rfl, ?hyra2⟩) (by assumption) ?restra2
    case hyra2 => (intro W hSw; obtain ⟨d0, d1, d2, d3, d4, d5⟩ := hSw.row.cells; obtain ⟨j1, j2, _, _, _⟩ := hSw.a.cel; obtain ⟨j6, j7, _, _, _⟩ := hSw.b.cel; dsimp only at d0 d1 d2 d3 d4 d5 j1 j2 j6 j7; clear hSw; (try dsimp only at hSw); go_simp; try with_reducible rfl)
    case' restra2 => try simp only [Act.put, List.setIfInBounds_toArray, List.set_cons_zero, List.set_cons_succ]
    refine wpAnyH_take (i := 3) (oi := ⟨some 31, _, _, _, _, _⟩) (v := ?vra3) rfl (by kernel_rfl) (by kernel_rfl) (by kernel_rfl) (fun _ _ _ h => h) (Or.inl ⟨by kernel_rfl, ?hyra3⟩) (by assumption) ?restra3
    case hyra3 => (intro W hSw; obtain ⟨d0, d1, d2, d3, d4, d5⟩ := hSw.row.cells; obtain ⟨j1, j2, _, _, _⟩ := hSw.a.cel; obtain ⟨j6, j7, _, _, _⟩ := hSw.b.cel; dsimp only at d0 d1 d2 d3 d4 d5 j1 j2 j6 j7; clear hSw; (try dsimp only at hSw); go_simp; try with_reducible rfl)
    case' restra3 => try simp only [Act.put, List.setIfInBounds_toArray, List.set_cons_zero, List.set_cons_succ]
    refine wpAnyH_take (i := 4) (oi := ⟨some 32, _, _, _, _, _⟩) (v := ?vra4) rfl (by kernel_rfl) (by kernel_rfl) (by kernel_rfl) (fun _ _ _ h => h) (Or.inl ⟨by kernel_rfl, ?hyra4⟩) (by assumption) ?restra4
    case hyra4 => (intro W hSw; obtain ⟨d0, d1, d2, d3, d4, d5⟩ := hSw.row.cells; obtain ⟨j1, j2, _, _, _⟩ := hSw.a.cel; obtain ⟨j6, j7, _, _, _⟩ := hSw.b.cel; dsimp only at d0 d1 d2 d3 d4 d5 j1 j2 j6 j7; clear hSw; (try dsimp only at hSw); go_simp; try with_reducible rfl)
    case' restra4 => try simp only [Act.put, List.setIfInBounds_toArray, List.set_cons_zero, List.set_cons_succ]
    refine wpAnyH_ready (rs := [2]) (by kernel_rfl) (by simp) ?_
    refine AllReadyH.cons (o := ⟨some 30, _, _, _, _, _⟩) rfl (fun K hK => ?_) AllReadyH.nil
    go_simp
    go_at_call 46
    refine (cL.out _ hS0.bl).mono ?_
    rintro e Wra1 ⟨rfl, hb⟩
    have hSWra1 := hS0.below hb
    clear hb hS0
    go_wp2_with fail
    refine hK.out _ _ hSWra1 (fun hHeld => ?_)
    clear hK hHeld K
    try simp only [Act.put, List.setIfInBounds_toArray, List.set_cons_zero, List.set_cons_succ]
    refine wpAnyH_ready (rs := [5]) (by kernel_rfl) (by simp) ?_
    refine AllReadyH.cons (o := ⟨some 33, _, _, _, _, _⟩) rfl (fun K hK => ?_) AllReadyH.nil
    go_simp
    go_at_call 46
    refine (cH.out _ hSWra1.bl).mono ?_
    rintro e Wra2 ⟨rfl, hb⟩
    have hSWra2 := hSWra1.below hb
    clear hb hSWra1
    go_wp2_with fail
    refine hK.out _ _ hSWra2 (fun hHeld => ?_)
    clear hK hHeld K
    try simp only [Act.put, List.setIfInBounds_toArray, List.set_cons_zero, List.set_cons_succ]
    refine wpAnyH_take (i := 6) (oi := ⟨some 10, _, _, _, _, _⟩) (v := ?vra5) rfl (by kernel_rfl) (by kernel_rfl) (by kernel_rfl) (fun _ _ _ h => h) (Or.inl ⟨by kernel_rfl, ?hyra5⟩) (by assumption) ?restra5
    case hyra5 => (intro W hSw; (try dsimp only at hSw); go_simp; try with_reducible rfl)
    case' restra5 => try simp only [Act.put, List.setIfInBounds_toArray, List.set_cons_zero, List.set_cons_succ]
    refine wpAnyH_take (i := 7) (oi := ⟨some 11, _, _, _, _, _⟩) (v := ?vra6) rfl (by kernel_rfl) (by kernel_rfl) (by kernel_rfl) (fun _ _ _ h => h) (Or.inl ⟨by kernel_rfl, ?hyra6⟩) (by assumption) ?restra6
    case hyra6 => (intro W hSw; (try dsimp only at hSw); go_simp; try with_reducible rfl)
    case' restra6 => try simp only [Act.put, List.setIfInBounds_toArray, List.set_cons_zero, List.set_cons_succ]
    refine wpAnyH_done (by kernel_rfl) ?_ _
    clear cL cH
    generalize Wra2 = w5 at *
    obtain ⟨d0, d1, d2, d3, d4, d5⟩ := hSWra2.row.cells
    obtain ⟨j1, j2, _, _, _⟩ := hSWra2.a.cel
    dsimp only at d0 d1 d2 d3 d4 d5 j1 j2
    go_upto_region 5 with fail
    go_quiet (fail)
    go_upto_region 6 with fail
    have hS6' := (hSWra2.drewN nq).drew
    have hS6 := hS6'.two
    have hr := hS6'.r
    have hk1 := hS6'.hk
    clear hS6' hSWra2 d0 d1 d2 d3 d4 d5 j1 j2
    generalize (w5.drewN nq) = w6 at *
    refine wp_region_held_drew (S := (fun W' : World => HP2 w k1 (k1 + 1) ⟨x, y, W, H, st, A, c, v⟩ ((p1 : Int), (p2 : Int)) ((q1 : Int), (q2 : Int)) W')) (by kernel_rfl) hS6 (fun hHeld => ?_)
    clear hHeld
    generalize w6.drew = wzrb at *
    refine wpAnyH_take (i := 0) (oi := ⟨some 52, _, _, _, _, _⟩) (v := ?vrb1) rfl (by kernel_rfl) (by kernel_rfl) (by kernel_rfl) (fun _ _ _ h => h) (Or.inl ⟨by kernel_rfl, ?hyrb1⟩) (by assumption) ?restrb1
    case hyrb1 => (intro W hSw; (try dsimp only at hSw); go_simp; try with_reducible rfl)
    case' restrb1 => try simp only [Act.put, List.setIfInBounds_toArray, List.set_cons_zero, List.set_cons_succ]
    refine wpAnyH_take (i := 1) (oi := ⟨some 53, _, _, _, _, _⟩) (v := ?vrb2) rfl (by kernel_rfl) (by kernel_rfl) (by kernel_rfl) (fun _ _ _ h => h) (Or.inl ⟨by kernel_rfl, ?hyrb2⟩) (by assumption) ?restrb2
    case hyrb2 => (intro W hSw; (try dsimp only at hSw); go_simp; try with_reducible rfl)
    case' restrb2 => try simp only [Act.put, List.setIfInBounds_toArray, List.set_cons_zero, List.set_cons_succ]
    refine wpAnyH_take (i := 2) (oi := ⟨some 54, _, _, _, _, _⟩) (v := ?vrb3) rfl (by kernel_rfl) (by kernel_rfl) (by kernel_rfl) (fun _ _ _ h => h) (Or.inl ⟨by kernel_rfl, ?hyrb3⟩) (by assumption) ?restrb3
    case hyrb3 => (intro W hSw; obtain ⟨d0, d1, d2, d3, d4, d5⟩ := hSw.row.cells; obtain ⟨j1, j2, _, _, _⟩ := hSw.a.cel; obtain ⟨j6, j7, _, _, _⟩ := hSw.b.cel; dsimp only at d0 d1 d2 d3 d4 d5 j1 j2 j6 j7; clear hSw; (try dsimp only at hSw); go_simp; try with_reducible rfl)
    case' restrb3 => try simp only [Act.put, List.setIfInBounds_toArray, List.set_cons_zero, List.set_cons_succ]
    refine wpAnyH_take (i := 3) (oi := ⟨some 55, _, _, _, _, _⟩) (v := ?vrb4) rfl (by kernel_rfl) (by kernel_rfl) (by kernel_rfl) (fun _ _ _ h => h) (Or.inl ⟨by kernel_rfl, ?hyrb4⟩) (by assumption) ?restrb4
    case hyrb4 => (intro W hSw; (try dsimp only at hSw); go_simp; try with_reducible rfl)
    case' restrb4 => try simp only [Act.put, List.setIfInBounds_toArray, List.set_cons_zero, List.set_cons_succ]
    refine wpAnyH_take (i := 4) (oi := ⟨some 56, _, _, _, _, _⟩) (v := ?vrb5) rfl (by kernel_rfl) (by kernel_rfl) (by kernel_rfl) (fun _ _ _ h => h) (Or.inl ⟨by kernel_rfl, ?hyrb5⟩) (by assumption) ?restrb5
    case hyrb5 => (intro W hSw; obtain ⟨d0, d1, d2, d3, d4, d5⟩ := hSw.row.cells; obtain ⟨j1, j2, _, _, _⟩ := hSw.a.cel; obtain ⟨j6, j7, _, _, _⟩ := hSw.b.cel; dsimp only at d0 d1 d2 d3 d4 d5 j1 j2 j6 j7; clear hSw; (try dsimp only at hSw); go_simp; try with_reducible rfl)
    case' restrb5 => try simp only [Act.put, List.setIfInBounds_toArray, List.set_cons_zero, List.set_cons_succ]
    refine wpAnyH_take (i := 5) (oi := ⟨some 57, _, _, _, _, _⟩) (v := ?vrb6) rfl (by kernel_rfl) (by kernel_rfl) (by kernel_rfl) (fun _ _ _ h => h) (Or.inl ⟨by kernel_rfl, ?hyrb6⟩) (by assumption) ?restrb6
    case hyrb6 => (intro W hSw; (try dsimp only at hSw); go_simp; try with_reducible rfl)
    case' restrb6 => try simp only [Act.put, List.setIfInBounds_toArray, List.set_cons_zero, List.set_cons_succ]
    refine wpAnyH_take (i := 6) (oi := ⟨some 58, _, _, _, _, _⟩) (v := ?vrb7) rfl (by kernel_rfl) (by kernel_rfl) (by kernel_rfl) (fun _ _ _ h => h) (Or.inl ⟨by kernel_rfl, ?hyrb7⟩) (by assumption) ?restrb7
    case hyrb7 => (intro W hSw; (try dsimp only at hSw); go_simp; try with_reducible rfl)
    case' restrb7 => try simp only [Act.put, List.setIfInBounds_toArray, List.set_cons_zero, List.set_cons_succ]
    refine wpAnyH_take (i := 7) (oi := ⟨some 59, _, _, _, _, _⟩) (v := ?vrb8) rfl (by kernel_rfl) (by kernel_rfl) (by kernel_rfl) (fun _ _ _ h => h) (Or.inl ⟨by kernel_rfl, ?hyrb8⟩) (by assumption) ?restrb8
    case hyrb8 => (intro W hSw; obtain ⟨d0, d1, d2, d3, d4, d5⟩ := hSw.row.cells; obtain ⟨j1, j2, _, _, _⟩ := hSw.a.cel; obtain ⟨j6, j7, _, _, _⟩ := hSw.b.cel; dsimp only at d0 d1 d2 d3 d4 d5 j1 j2 j6 j7; clear hSw; (try dsimp only at hSw); go_simp; try with_reducible rfl)
    case' restrb8 => try simp only [Act.put, List.setIfInBounds_toArray, List.set_cons_zero, List.set_cons_succ]
    refine wpAnyH_take (i := 8) (oi := ⟨some 60, _, _, _, _, _⟩) (v := ?vrb9) rfl (by kernel_rfl) (by kernel_rfl) (by kernel_rfl) (fun _ _ _ h => h) (Or.inl ⟨by kernel_rfl, ?hyrb9⟩) (by assumption) ?restrb9
    case hyrb9 => (intro W hSw; (try dsimp only at hSw); go_simp; try with_reducible rfl)
    case' restrb9 => try simp only [Act.put, List.setIfInBounds_toArray, List.set_cons_zero, List.set_cons_succ]
    refine wpAnyH_take (i := 9) (oi := ⟨some 61, _, _, _, _, _⟩) (v := ?vrb10) rfl (by kernel_rfl) (by kernel_rfl) (by kernel_rfl) (fun _ _ _ h => h) (Or.inl ⟨by kernel_rfl, ?hyrb10⟩) (by assumption) ?restrb10
    case hyrb10 => (intro W hSw; (try dsimp only at hSw); go_simp; try with_reducible rfl)
    case' restrb10 => try simp only [Act.put, List.setIfInBounds_toArray, List.set_cons_zero, List.set_cons_succ]
    refine wpAnyH_take (i := 10) (oi := ⟨some 62, _, _, _, _, _⟩) (v := ?vrb11) rfl (by kernel_rfl) (by kernel_rfl) (by kernel_rfl) (fun _ _ _ h => h) (Or.inl ⟨by kernel_rfl, ?hyrb11⟩) (by assumption) ?restrb11
    case hyrb11 => (intro W hSw; (try dsimp only at hSw); go_simp; try with_reducible rfl)
    case' restrb11 => try simp only [Act.put, List.setIfInBounds_toArray, List.set_cons_zero, List.set_cons_succ]
    refine wpAnyH_take (i := 11) (oi := ⟨some 63, _, _, _, _, _⟩) (v := ?vrb12) rfl (by kernel_rfl) (by kernel_rfl) (by kernel_rfl) (fun _ _ _ h => h) (Or.inl ⟨by kernel_rfl, ?hyrb12⟩) (by assumption) ?restrb12
    case hyrb12 => (intro W hSw; (try dsimp only at hSw); go_simp; try with_reducible rfl)
    case' restrb12 => try simp only [Act.put, List.setIfInBounds_toArray, List.set_cons_zero, List.set_cons_succ]
    refine wpAnyH_take (i := 12) (oi := ⟨some 64, _, _, _, _, _⟩) (v := ?vrb13) rfl (by kernel_rfl) (by kernel_rfl) (by kernel_rfl) (fun _ _ _ h => h) (Or.inl ⟨by kernel_rfl, ?hyrb13⟩) (by assumption) ?restrb13
    case hyrb13 => (intro W hSw; (try dsimp only at hSw); go_simp; try with_reducible rfl)
    case' restrb13 => try simp only [Act.put, List.setIfInBounds_toArray, List.set_cons_zero, List.set_cons_succ]
    refine wpAnyH_take (i := 13) (oi := ⟨some 65, _, _, _, _, _⟩) (v := ?vrb14) rfl (by kernel_rfl) (by kernel_rfl) (by kernel_rfl) (fun _ _ _ h => h) (Or.inl ⟨by kernel_rfl, ?hyrb14⟩) (by assumption) ?restrb14
    case hyrb14 => (intro W hSw; (try dsimp only at hSw); go_simp; try with_reducible rfl)
    case' restrb14 => try simp only [Act.put, List.setIfInBounds_toArray, List.set_cons_zero, List.set_cons_succ]
    refine wpAnyH_take (i := 14) (oi := ⟨some 66, _, _, _, _, _⟩) (v := ?vrb15) rfl (by kernel_rfl) (by kernel_rfl) (by kernel_rfl) (fun _ _ _ h => h) (Or.inl ⟨by kernel_rfl, ?hyrb15⟩) (by assumption) ?restrb15
    case hyrb15 => (intro W hSw; (try dsimp only at hSw); go_simp; try with_reducible rfl)
    case' restrb15 => try simp only [Act.put, List.setIfInBounds_toArray, List.set_cons_zero, List.set_cons_succ]
    refine wpAnyH_take (i := 15) (oi := ⟨some 67, _, _, _, _, _⟩) (v := ?vrb16) rfl (by kernel_rfl) (by kernel_rfl) (by kernel_rfl) (fun _ _ _ h => h) (Or.inl ⟨by kernel_rfl, ?hyrb16⟩) (by assumption) ?restrb16
    case hyrb16 => (intro W hSw; (try dsimp only at hSw); go_simp; try with_reducible rfl)
    case' restrb16 => try simp only [Act.put, List.setIfInBounds_toArray, List.set_cons_zero, List.set_cons_succ]
    refine wpAnyH_take (i := 18) (oi := ⟨some 70, _, _, _, _, _⟩) (v := ?vrb17) rfl (by kernel_rfl) (by kernel_rfl) (by kernel_rfl) (fun _ _ _ h => h) (Or.inl ⟨by kernel_rfl, ?hyrb17⟩) (by assumption) ?restrb17
    case hyrb17 => (intro W hSw; (try dsimp only at hSw); go_simp; try with_reducible rfl)
    case' restrb17 => try simp only [Act.put, List.setIfInBounds_toArray, List.set_cons_zero, List.set_cons_succ]
    refine wpAnyH_take (i := 19) (oi := ⟨some 71, _, _, _, _, _⟩) (v := ?vrb18) rfl (by kernel_rfl) (by kernel_rfl) (by kernel_rfl) (fun _ _ _ h => h) (Or.inl ⟨by kernel_rfl, ?hyrb18⟩) (by assumption) ?restrb18
    case hyrb18 => (intro W hSw; (try dsimp only at hSw); go_simp; try with_reducible rfl)
    case' restrb18 => try simp only [Act.put, List.setIfInBounds_toArray, List.set_cons_zero, List.set_cons_succ]
    refine wpAnyH_take (i := 20) (oi := ⟨some 72, _, _, _, _, _⟩) (v := ?vrb19) rfl (by kernel_rfl) (by kernel_rfl) (by kernel_rfl) (fun _ _ _ h => h) (Or.inl ⟨by kernel_rfl, ?hyrb19⟩) (by assumption) ?restrb19
    case hyrb19 => (intro W hSw; obtain ⟨d0, d1, d2, d3, d4, d5⟩ := hSw.row.cells; obtain ⟨j1, j2, _, _, _⟩ := hSw.a.cel; obtain ⟨j6, j7, _, _, _⟩ := hSw.b.cel; dsimp only at d0 d1 d2 d3 d4 d5 j1 j2 j6 j7; clear hSw; (try dsimp only at hSw); go_simp; try with_reducible rfl)
    case' restrb19 => try simp only [Act.put, List.setIfInBounds_toArray, List.set_cons_zero, List.set_cons_succ]
    refine wpAnyH_take (i := 21) (oi := ⟨some 73, _, _, _, _, _⟩) (v := ?vrb20) rfl (by kernel_rfl) (by kernel_rfl) (by kernel_rfl) (fun _ _ _ h => h) (Or.inl ⟨by kernel_rfl, ?hyrb20⟩) (by assumption) ?restrb20
    case hyrb20 => (intro W hSw; (try dsimp only at hSw); go_simp; try with_reducible rfl)
    case' restrb20 => try simp only [Act.put, List.setIfInBounds_toArray, List.set_cons_zero, List.set_cons_succ]
    refine wpAnyH_take (i := 22) (oi := ⟨some 74, _, _, _, _, _⟩) (v := ?vrb21) rfl (by kernel_rfl) (by kernel_rfl) (by kernel_rfl) (fun _ _ _ h => h) (Or.inl ⟨by kernel_rfl, ?hyrb21⟩) (by assumption) ?restrb21
    case hyrb21 => (intro W hSw; obtain ⟨d0, d1, d2, d3, d4, d5⟩ := hSw.row.cells; obtain ⟨j1, j2, _, _, _⟩ := hSw.a.cel; obtain ⟨j6, j7, _, _, _⟩ := hSw.b.cel; dsimp only at d0 d1 d2 d3 d4 d5 j1 j2 j6 j7; clear hSw; (try dsimp only at hSw); go_simp; try with_reducible rfl)
    case' restrb21 => try simp only [Act.put, List.setIfInBounds_toArray, List.set_cons_zero, List.set_cons_succ]
    refine wpAnyH_take (i := 23) (oi := ⟨some 75, _, _, _, _, _⟩) (v := ?vrb22) rfl (by kernel_rfl) (by kernel_rfl) (by kernel_rfl) (fun _ _ _ h => h) (Or.inl ⟨by kernel_rfl, ?hyrb22⟩) (by assumption) ?restrb22
    case hyrb22 => (intro W hSw; (try dsimp only at hSw); go_simp; try with_reducible rfl)
    case' restrb22 => try simp only [Act.put, List.setIfInBounds_toArray, List.set_cons_zero, List.set_cons_succ]
    refine wpAnyH_take (i := 24) (oi := ⟨some 76, _, _, _, _, _⟩) (v := ?vrb23) rfl (by kernel_rfl) (by kernel_rfl) (by kernel_rfl) (fun _ _ _ h => h) (Or.inl ⟨by kernel_rfl, ?hyrb23⟩) (by assumption) ?restrb23
    case hyrb23 => (intro W hSw; (try dsimp only at hSw); go_simp; try with_reducible rfl)
    case' restrb23 => try simp only [Act.put, List.setIfInBounds_toArray, List.set_cons_zero, List.set_cons_succ]
    refine wpAnyH_take (i := 25) (oi := ⟨some 77, _, _, _, _, _⟩) (v := ?vrb24) rfl (by kernel_rfl) (by kernel_rfl) (by kernel_rfl) (fun _ _ _ h => h) (Or.inl ⟨by kernel_rfl, ?hyrb24⟩) (by assumption) ?restrb24
    case hyrb24 => (intro W hSw; obtain ⟨d0, d1, d2, d3, d4, d5⟩ := hSw.row.cells; obtain ⟨j1, j2, _, _, _⟩ := hSw.a.cel; obtain ⟨j6, j7, _, _, _⟩ := hSw.b.cel; dsimp only at d0 d1 d2 d3 d4 d5 j1 j2 j6 j7; clear hSw; (try dsimp only at hSw); go_simp; try with_reducible rfl)
    case' restrb24 => try simp only [Act.put, List.setIfInBounds_toArray, List.set_cons_zero, List.set_cons_succ]
    refine wpAnyH_take (i := 26) (oi := ⟨some 78, _, _, _, _, _⟩) (v := ?vrb25) rfl (by kernel_rfl) (by kernel_rfl) (by kernel_rfl) (fun _ _ _ h => h) (Or.inl ⟨by kernel_rfl, ?hyrb25⟩) (by assumption) ?restrb25
    case hyrb25 => (intro W hSw; (try dsimp only at hSw); go_simp; try with_reducible rfl)
    case' restrb25 => try simp only [Act.put, List.setIfInBounds_toArray, List.set_cons_zero, List.set_cons_succ]
    refine wpAnyH_take (i := 27) (oi := ⟨some 79, _, _, _, _, _⟩) (v := ?vrb26) rfl (by kernel_rfl) (by kernel_rfl) (by kernel_rfl) (fun _ _ _ h => h) (Or.inl ⟨by kernel_rfl, ?hyrb26⟩) (by assumption) ?restrb26
    case hyrb26 => (intro W hSw; (try dsimp only at hSw); go_simp; try with_reducible rfl)
    case' restrb26 => try simp only [Act.put, List.setIfInBounds_toArray, List.set_cons_zero, List.set_cons_succ]
    refine wpAnyH_take (i := 28) (oi := ⟨some 80, _, _, _, _, _⟩) (v := ?vrb27) rfl (by kernel_rfl) (by kernel_rfl) (by kernel_rfl) (fun _ _ _ h => h) (Or.inl ⟨by kernel_rfl, ?hyrb27⟩) (by assumption) ?restrb27
    case hyrb27 => (intro W hSw; (try dsimp only at hSw); go_simp; try with_reducible rfl)
    case' restrb27 => try simp only [Act.put, List.setIfInBounds_toArray, List.set_cons_zero, List.set_cons_succ]
    refine wpAnyH_take (i := 29) (oi := ⟨some 81, _, _, _, _, _⟩) (v := ?vrb28) rfl (by kernel_rfl) (by kernel_rfl) (by kernel_rfl) (fun _ _ _ h => h) (Or.inl ⟨by kernel_rfl, ?hyrb28⟩) (by assumption) ?restrb28
    case hyrb28 => (intro W hSw; (try dsimp only at hSw); go_simp; try with_reducible rfl)
    case' restrb28 => try simp only [Act.put, List.setIfInBounds_toArray, List.set_cons_zero, List.set_cons_succ]
    refine wpAnyH_take (i := 30) (oi := ⟨some 82, _, _, _, _, _⟩) (v := ?vrb29) rfl (by kernel_rfl) (by kernel_rfl) (by kernel_rfl) (fun _ _ _ h => h) (Or.inl ⟨by kernel_rfl, ?hyrb29⟩) (by assumption) ?restrb29
    case hyrb29 => (intro W hSw; (try dsimp only at hSw); go_simp; try with_reducible rfl)
    case' restrb29 => try simp only [Act.put, List.setIfInBounds_toArray, List.set_cons_zero, List.set_cons_succ]
    refine wpAnyH_take (i := 31) (oi := ⟨some 83, _, _, _, _, _⟩) (v := ?vrb30) rfl (by kernel_rfl) (by kernel_rfl) (by kernel_rfl) (fun _ _ _ h => h) (Or.inl ⟨by kernel_rfl, ?hyrb30⟩) (by assumption) ?restrb30
    case hyrb30 => (intro W hSw; (try dsimp only at hSw); go_simp; try with_reducible rfl)
    case' restrb30 => try simp only [Act.put, List.setIfInBounds_toArray, List.set_cons_zero, List.set_cons_succ]
    refine wpAnyH_take (i := 32) (oi := ⟨some 84, _, _, _, _, _⟩) (v := ?vrb31) rfl (by kernel_rfl) (by kernel_rfl) (by kernel_rfl) (fun _ _ _ h => h) (Or.inl ⟨by kernel_rfl, ?hyrb31⟩) (by assumption) ?restrb31
    case hyrb31 => (intro W hSw; (try dsimp only at hSw); go_simp; try with_reducible rfl)
    case' restrb31 => try simp only [Act.put, List.setIfInBounds_toArray, List.set_cons_zero, List.set_cons_succ]
    refine wpAnyH_take (i := 33) (oi := ⟨some 85, _, _, _, _, _⟩) (v := ?vrb32) rfl (by kernel_rfl) (by kernel_rfl) (by kernel_rfl) (fun _ _ _ h => h) (Or.inl ⟨by kernel_rfl, ?hyrb32⟩) (by assumption) ?restrb32
    case hyrb32 => (intro W hSw; (try dsimp only at hSw); go_simp; try with_reducible rfl)
    case' restrb32 => try simp only [Act.put, List.setIfInBounds_toArray, List.set_cons_zero, List.set_cons_succ]
    refine wpAnyH_ready (rs := [16]) (by kernel_rfl) (by simp) ?_
    refine AllReadyH.cons (o := ⟨some 68, _, _, _, _, _⟩) rfl (fun K hK => ?_) AllReadyH.nil
    go_simp
    go_at_call 47
    refine (cX.out _).mono ?_
    rintro e Wrb1 ⟨rfl, hb⟩
    replace hr := hr.below hb
    have hSWrb1 := hS6.below hb
    clear hb hS6
    go_wp2_with fail
    refine hK.out _ _ hSWrb1 (fun hHeld => ?_)
    clear hK hHeld K
    try simp only [Act.put, List.setIfInBounds_toArray, List.set_cons_zero, List.set_cons_succ]
    refine wpAnyH_take (i := 17) (oi := ⟨some 69, _, _, _, _, _⟩) (v := ?vrb33) rfl (by kernel_rfl) (by kernel_rfl) (by kernel_rfl) (fun _ _ _ h => h) (Or.inl ⟨by kernel_rfl, ?hyrb33⟩) (by assumption) ?restrb33
    case hyrb33 => (intro W hSw; (try dsimp only at hSw); go_simp; try with_reducible rfl)
    case' restrb33 => try simp only [Act.put, List.setIfInBounds_toArray, List.set_cons_zero, List.set_cons_succ]
    refine wpAnyH_ready (rs := [34]) (by kernel_rfl) (by simp) ?_
    refine AllReadyH.cons (o := ⟨some 86, _, _, _, _, _⟩) rfl (fun K hK => ?_) AllReadyH.nil
    go_simp
    go_at_call 47
    refine (cY.out _).mono ?_
    rintro e Wrb2 ⟨rfl, hb⟩
    replace hr := hr.below hb
    have hSWrb2 := hSWrb1.below hb
    clear hb hSWrb1
    go_wp2_with fail
    refine hK.out _ _ hSWrb2 (fun hHeld => ?_)
    clear hK hHeld K
    try simp only [Act.put, List.setIfInBounds_toArray, List.set_cons_zero, List.set_cons_succ]
    refine wpAnyH_take (i := 35) (oi := ⟨some 87, _, _, _, _, _⟩) (v := ?vrb34) rfl (by kernel_rfl) (by kernel_rfl) (by kernel_rfl) (fun _ _ _ h => h) (Or.inl ⟨by kernel_rfl, ?hyrb34⟩) (by assumption) ?restrb34
    case hyrb34 => (intro W hSw; (try dsimp only at hSw); go_simp; try with_reducible rfl)
    case' restrb34 => try simp only [Act.put, List.setIfInBounds_toArray, List.set_cons_zero, List.set_cons_succ]
    refine wpAnyH_take (i := 36) (oi := ⟨some 88, _, _, _, _, _⟩) (v := ?vrb35) rfl (by kernel_rfl) (by kernel_rfl) (by kernel_rfl) (fun _ _ _ h => h) (Or.inl ⟨by kernel_rfl, ?hyrb35⟩) (by assumption) ?restrb35
    case hyrb35 => (intro W hSw; (try dsimp only at hSw); go_simp; try with_reducible rfl)
    case' restrb35 => try simp only [Act.put, List.setIfInBounds_toArray, List.set_cons_zero, List.set_cons_succ]
    refine wpAnyH_ready (rs := [37]) (by kernel_rfl) (by simp) ?_
    refine AllReadyH.cons (o := ⟨none, _, _, _, _, _⟩) rfl (fun K hK => ?_) AllReadyH.nil
    refine BoxP.store hr (x + (p1 : Int) * st + rx, y + (p2 : Int) * st + ry) rfl _ _ rfl rfl rfl ?_
    have hput := hSWrb2.put hk1 (x + (p1 : Int) * st + rx, y + (p2 : Int) * st + ry)
    have hr2 := hr.set (x + (p1 : Int) * st + rx, y + (p2 : Int) * st + ry)
    clear hSWrb2 hr
    generalize setP Wrb2 (w.heap.size + 1) (x + (p1 : Int) * st + rx, y + (p2 : Int) * st + ry) = Wrb3 at *
    refine hK.out _ _ hput (fun hHeld => ?_)
    clear hK hHeld K
    try simp only [Act.put, List.setIfInBounds_toArray, List.set_cons_zero, List.set_cons_succ]
    refine wpAnyH_done (by kernel_rfl) ?_ _
    have h1 := hr2.c0
    have h2 := hr2.c1
    have HFB := Lib.hid hput.bl
    clear hput
    go_wp2_with fail
    refine bodyPost_ret (v := .agg #[.int .i64 (x + (p1 : Int) * st + rx), .int .i64 (y + (p2 : Int) * st + ry)]) (by simp [results, Try.results22, go_sem, h1, h2]) rfl ?_
    exact ⟨by rw [hP.out], HFB.out⟩
end Go.Proofs
/- The reference's path. -/
set_option linter.unusedVariables false
set_option linter.unusedSimpArgs false
namespace Go.Proofs
open Go.RowKit Go.Proofs.Mp Go.Lib

/-- the first k points without repetitions -/
def cmpTo (xs : List Pt) (k : Nat) : List Pt := compactUpTo xs.toArray k
theorem cmpTo_zero (xs : List Pt) : cmpTo xs 0 = [] := rfl
theorem cmpTo_all (xs : List Pt) : cmpTo xs xs.length = cmpL xs := by unfold cmpTo cmpL; simp
theorem arr_get (xs : List Pt) (k : Nat) : xs.toArray[k]! = xs[k]! := by simp
theorem cmpTo_succ (xs : List Pt) (k : Nat) : cmpTo xs (k + 1) = cmpTo xs k ++ (if keeps xs.toArray k then [xs[k]!] else []) := by
  unfold cmpTo; rw [compactUpTo_succ, arr_get]
theorem cmpTo_last (xs : List Pt) : ∀ k, 1 ≤ k → 1 ≤ (cmpTo xs k).length ∧ (cmpTo xs k)[(cmpTo xs k).length - 1]! = xs[k - 1]! := by
  intro k
  induction k with
  | zero => intro h; omega
  | succ k ih =>
    intro _
    rw [cmpTo_succ]
    by_cases hk : keeps xs.toArray k = true
    · rw [if_pos hk]
      refine ⟨by simp, ?_⟩
      rw [List.length_append, List.length_singleton, Nat.add_sub_cancel, getApp2 (Nat.le_refl _)]
      simp
    · rw [if_neg hk, List.append_nil]
      have h1 : 1 ≤ k := by
        rcases Nat.eq_zero_or_pos k with rfl | h
        · exact absurd (keeps_lt_one _ 0 (by omega)) hk
        · exact h
      obtain ⟨i1, i2⟩ := ih h1
      refine ⟨i1, i2.trans ?_⟩
      have : ¬ xs[k]! ≠ xs[k - 1]! := fun hne => hk (keeps_pos (by rw [arr_get, arr_get]; exact hne))
      have := Classical.not_not.1 this
      rw [Nat.add_sub_cancel, this]
theorem cmpTo_len (xs : List Pt) (k : Nat) : (cmpTo xs k).length ≤ k := by
  unfold cmpTo compactUpTo
  rw [List.length_map]
  exact Nat.le_trans (List.length_filter_le _ _) (by simp)
theorem cmpTo_keep {xs : List Pt} {k : Nat} (h1 : 1 ≤ k) (h : xs[k - 1]! ≠ xs[k]!) : cmpTo xs (k + 1) = cmpTo xs k ++ [xs[k]!] := by
  rw [cmpTo_succ, if_pos (keeps_pos (by rw [arr_get, arr_get]; exact fun e => h e.symm))]
theorem cmpTo_drop {xs : List Pt} {k : Nat} (h1 : 1 ≤ k) (h : xs[k - 1]! = xs[k]!) : cmpTo xs (k + 1) = cmpTo xs k := by
  rw [cmpTo_succ, if_neg (by rw [keeps_neg h1 (by rw [arr_get, arr_get]; exact h.symm)]; decide), List.append_nil]
theorem cmpTo_one (xs : List Pt) : cmpTo xs 1 = [xs[0]!] := by
  rw [cmpTo_succ, if_pos (keeps_lt_one _ 0 (by omega)), cmpTo_zero]; rfl

set_option maxRecDepth 100000 in
set_option maxHeartbeats 8000000 in
theorem ref_path (t : Ht) (W H : Nat) (level : Int) (C : List Nat) (A : Option Addr) (cp : Nat) (w : World) (g : Grd t W H) (hC : ∀ e ∈ C, crsB (abv t level) W H e = true) (hl : C.length ≤ 100000) (hR : RdI w t.a t.v) (hRC : RdI w A (ci C)) :
    Calls Try.prog 33 #[aggH t, .int .i64 level, .slice A C.length cp] w (fun e w' => ∃ v, e = .returned v ∧ OwnR 23 w' w.heap.size v (cmpL (C.map (ptE t W level))) ∧ Below w.heap.size w w') := by
  have heq := Try.neq23
  have hgd := Try.guard23
  have hb0 := bw1 w (.cells (celH t) 26)
  have hrow0 := RowH.new w t
  have hs0 : (w.alloc (.cells (celH t) 26)).heap.size = w.heap.size + 1 := by simp
  have HRow := Lib.hid fun (W' : World) (hb : Below (w.alloc (.cells (celH t) 26)).heap.size (w.alloc (.cells (celH t) 26)) W') => hrow0.below hb
  have HG := Lib.hid fun (k : Nat) (hk : k < C.length) (W' : World) (hb : Below w.heap.size w W') => (show ∃ b off, A = some ⟨b, off, none⟩ ∧ W'.cell? ⟨b, off + k, none⟩ = some (.int .i64 ((C[k]! : Nat) : Int)) from by
    obtain ⟨b, off, h1, _, h2⟩ := RdI.get hRC hb (j := k) (by rw [ci_len]; exact hk)
    rw [ci_get hk] at h2
    exact ⟨b, off, h1, h2⟩)
  have cP := Lib.hid fun (k : Nat) (hk : k < C.length) (W' : World) (hb : Below w.heap.size w W') => (show Calls Try.prog 22 #[aggH t, .int .i64 level, .int .i64 C[k]!] W' (RetV W' (aggP (C.map (ptE t W level))[k]!)) from by
    have := ref_Point t W H level C[k]! W' g (hC _ (by rw [getElem!_pos C k hk]; exact List.getElem_mem _)) (hR.below hb)
    rw [getElem!_pos (C.map (ptE t W level)) k (by simpa using hk)]
    rw [getElem!_pos C k hk] at this ⊢
    simpa using this)
  have hpl : (C.map (ptE t W level)).length = C.length := by simp
  have HA := Lib.hid (cmpTo_all (C.map (ptE t W level)))
  rw [hpl] at HA
  have HLa := Lib.hid (cmpTo_last (C.map (ptE t W level)))
  have HLe := Lib.hid (cmpTo_len (C.map (ptE t W level)))
  have HKp := Lib.hid fun k => @cmpTo_keep (C.map (ptE t W level)) k
  have HDr := Lib.hid fun k => @cmpTo_drop (C.map (ptE t W level)) k
  have HOn := Lib.hid (cmpTo_one (C.map (ptE t W level)))
  have HZe := Lib.hid (cmpTo_zero (C.map (ptE t W level)))
  clear hpl hrow0 hC hR hRC g
  generalize cmpL (C.map (ptE t W level)) = res at *
  generalize cmpTo (C.map (ptE t W level)) = T at *
  generalize C.map (ptE t W level) = P at *
  generalize hCl : C.length = n at *
  have HCl := Lib.hid hCl
  clear hCl
  obtain ⟨x, y, tw, th, st, A0, c, v⟩ := t
  unfold aggH celH aggP at *
  dsimp only at *
  have HB0 := Lib.hid hb0
  clear hb0
  go_enter Try.func33, Try.ntmps33
  go_upto_block 0 with fail
  generalize (w.alloc (.cells #[.int .i64 x, .int .i64 y, .int .i64 tw, .int .i64 th, .int .i64 st, .slice A0 v.length c] 26)) = w0 at *
  go_wp2_with fail
  go_loopw [7, 8] (fun s7 i wr => ∃ k : Nat, k ≤ n ∧ i = .int .i64 k ∧ OwnR 23 wr w0.heap.size s7 (T k) ∧ Below w0.heap.size w0 wr) (fun _ i _ => n - (intOf i).toNat)
  case atStart => exact ⟨0, by omega, rfl, by rw [HZe.out]; exact Own.nil _ _, Below.refl _ _⟩
  case round =>
    obtain ⟨k, hk, rfl, ko, kb⟩ := hrel
    have HO := Lib.hid ko
    have HB := Lib.hid kb
    obtain ⟨A5, c5, rfl⟩ := Own.slice ko
    clear ko kb
    generalize wr = wa at *
    by_cases hlt : k < n
    rotate_left
    · have hkn : n = k := by omega
      subst hkn
      have hge : ¬ ((n : Int) < (n : Int)) := by omega
      have hsz0 := (show w.heap.size ≤ w0.heap.size by omega)
      go_wp2
      go_ret
      exact ⟨_, rfl, by rw [← HA.out]; exact HO.out.mono hsz0, HB0.out.trans (HB.out.mono hsz0)⟩
    · have hli : (k : Int) < (n : Int) := by omega
      have hsz0 := (show w.heap.size ≤ w0.heap.size by omega)
      have hbw := Lib.hid fun W' (hb : Below wa.heap.size wa W') => (HB0.out.trans ((HB.out.trans (hb.mono HB.out.size)).mono hsz0) : Below w.heap.size w W')
      have HG1 := Lib.hid fun W' (hb : Below wa.heap.size wa W') => HG.out k hlt W' (hbw.out W' hb)
      have cP1 := Lib.hid fun W' (hb : Below wa.heap.size wa W') => cP.out k hlt W' (hbw.out W' hb)
      have HRd := Lib.hid fun W' (hb : Below wa.heap.size wa W') => HRow.out W' (HB.out.trans (hb.mono HB.out.size))
      have HOb := Lib.hid fun W' (hb : Below wa.heap.size wa W') => HO.out.below hb
      obtain ⟨b, off, rfl, _⟩ := HG1.out wa (Below.refl _ _)
      have HG2 := Lib.hid fun (W' : World) (hb : Below wa.heap.size wa W') => (show W'.cell? ⟨b, off + k, none⟩ = some (.int .i64 ((C[k]! : Nat) : Int)) from by
        obtain ⟨b', off', h1, h2⟩ := HG1.out W' hb
        injection h1 with h1
        injection h1 with h1 h3
        subst h1 h3
        exact h2)
      obtain ⟨p, hp⟩ : ∃ p, P[k]! = p := ⟨_, rfl⟩
      have HP := Lib.hid hp
      rw [hp] at cP1
      clear hp HG1
      obtain ⟨e, he⟩ : ∃ e, C[k]! = e := ⟨_, rfl⟩
      rw [he] at cP1 HG2
      clear he cP HG HRow
      go_upto_region 5 with fail
      have hS0 : (fun W' : World => Below wa.heap.size wa W') wa.drew := (Below.refl _ _).drew
      refine wp_region_held_drew (S := (fun W' : World => Below wa.heap.size wa W')) (by kernel_rfl) hS0 (fun hHeld => ?_)
      clear hHeld
      generalize wa.drew = wzra at *
      refine wpAnyH_take (i := 0) (oi := ⟨some 16, _, _, _, _, _⟩) (v := ?vra1) rfl (by kernel_rfl) (by kernel_rfl) (by kernel_rfl) (fun _ _ _ h => h) (Or.inl ⟨by kernel_rfl, ?hyra1⟩) (by assumption) ?restra1
      case hyra1 => (intro W hSw; obtain ⟨d0, d1, d2, d3, d4, d5⟩ := (HRd.out W hSw).cells; dsimp only at d0 d1 d2 d3 d4 d5; (try dsimp only at hSw); go_simp; try with_reducible rfl)
      case' restra1 => try simp only [Act.put, List.setIfInBounds_toArray, List.set_cons_zero, List.set_cons_succ]
      refine wpAnyH_take (i := 1) (oi := ⟨some 17, _, _, _, _, _⟩) (v := ?vra2) rfl (by kernel_rfl) (by kernel_rfl) (by kernel_rfl) (fun _ _ _ h => h) (Or.inl ⟨by kernel_rfl, ?hyra2⟩) (by assumption) ?restra2
      case hyra2 => (intro W hSw; (try dsimp only at hSw); go_simp; try with_reducible rfl)
      case' restra2 => try simp only [Act.put, List.setIfInBounds_toArray, List.set_cons_zero, List.set_cons_succ]
      refine wpAnyH_take (i := 2) (oi := ⟨some 18, _, _, _, _, _⟩) (v := ?vra3) rfl (by kernel_rfl) (by kernel_rfl) (by kernel_rfl) (fun _ _ _ h => h) (Or.inl ⟨by kernel_rfl, ?hyra3⟩) (by assumption) ?restra3
      case hyra3 => (intro W hSw; (try dsimp only at hSw); go_simp; try with_reducible rfl)
      case' restra3 => try simp only [Act.put, List.setIfInBounds_toArray, List.set_cons_zero, List.set_cons_succ]
      refine wpAnyH_take (i := 3) (oi := ⟨some 19, _, _, _, _, _⟩) (v := ?vra4) rfl (by kernel_rfl) (by kernel_rfl) (by kernel_rfl) (fun _ _ _ h => h) (Or.inl ⟨by kernel_rfl, ?hyra4⟩) (by assumption) ?restra4
      case hyra4 => (intro W hSw; (try dsimp only at hSw); go_simp; try with_reducible rfl)
      case' restra4 => try simp only [Act.put, List.setIfInBounds_toArray, List.set_cons_zero, List.set_cons_succ]
      refine wpAnyH_take (i := 4) (oi := ⟨some 20, _, _, _, _, _⟩) (v := ?vra5) rfl (by kernel_rfl) (by kernel_rfl) (by kernel_rfl) (fun _ _ _ h => h) (Or.inl ⟨by kernel_rfl, ?hyra5⟩) (by assumption) ?restra5
      case hyra5 => (intro W hSw; (try dsimp only at hSw); go_simp; try with_reducible rfl)
      case' restra5 => try simp only [Act.put, List.setIfInBounds_toArray, List.set_cons_zero, List.set_cons_succ]
      refine wpAnyH_take (i := 5) (oi := ⟨some 21, _, _, _, _, _⟩) (v := ?vra6) rfl (by kernel_rfl) (by kernel_rfl) (by kernel_rfl) (fun _ _ _ h => h) (Or.inl ⟨by kernel_rfl, ?hyra6⟩) (by assumption) ?restra6
      case hyra6 => (intro W hSw; have c1 := HG2.out W hSw; (try dsimp only at hSw); go_simp; try with_reducible rfl)
      case' restra6 => try simp only [Act.put, List.setIfInBounds_toArray, List.set_cons_zero, List.set_cons_succ]
      refine' wpAnyH_share (fun H f l (act : Value → Act) => ∀ (pv1 : Value) (WX : World), BoxV wa.heap.size WX pv1 (0, 0) → (fun W' : World => Below wa.heap.size wa W') WX → H f l (act pv1) WX) (fun tailra7 => ?mtailra7) ?ttailra7
      case mtailra7 =>
        refine wpAnyH_ready (rs := [6, 7]) (by kernel_rfl) (by simp) ?_
        refine AllReadyH.cons (o := ⟨some 22, _, _, _, _, _⟩) rfl (fun K hK => ?_) ?_
        · skip
          go_simp
          go_at_call 22
          refine (cP1.out _ hS0).mono ?_
          rintro e9 Wra1 ⟨rfl, hb⟩
          have hSWra1 := hS0.trans (hb.mono hS0.size)
          clear hb
          try clear hS0
          go_wp2_with fail
          refine hK.out _ _ hSWra1 (fun hHeld => ?_)
          clear hK hHeld K
          try simp only [Act.put, List.setIfInBounds_toArray, List.set_cons_zero, List.set_cons_succ]
          refine wpAnyH_ready (rs := [7]) (by kernel_rfl) (by simp) ?_
          refine AllReadyH.cons (o := ⟨some 9, _, _, _, _, _⟩) rfl (fun K hK => ?_) AllReadyH.nil
          go_simp
          have hx1 := BoxV.new Wra1 hSWra1.size
          have hSWra2 := hSWra1.alloc hSWra1.size (.cells #[.int .i64 0, .int .i64 0] 23)
          refine hK.out _ _ hSWra2 (fun hHeld => ?_)
          clear hK hHeld K
          try clear hSWra1
          try simp only [Act.put, List.setIfInBounds_toArray, List.set_cons_zero, List.set_cons_succ]
          generalize (Wra1.alloc (.cells #[.int .i64 0, .int .i64 0] 23)) = Wra2 at hx1 hSWra2 ⊢
          generalize Value.pointer (some ⟨Wra1.heap.size, 0, none⟩) = pv1 at hx1 ⊢
          exact wpAnyH_cast rfl rfl (tailra7 pv1 Wra2 hx1 hSWra2)
        refine AllReadyH.cons (o := ⟨some 9, _, _, _, _, _⟩) rfl (fun K hK => ?_) AllReadyH.nil
        go_simp
        have hx1 := BoxV.new wzra hS0.size
        have hSWra3 := hS0.alloc hS0.size (.cells #[.int .i64 0, .int .i64 0] 23)
        refine hK.out _ _ hSWra3 (fun hHeld => ?_)
        clear hK hHeld K
        try clear hS0
        try simp only [Act.put, List.setIfInBounds_toArray, List.set_cons_zero, List.set_cons_succ]
        generalize (wzra.alloc (.cells #[.int .i64 0, .int .i64 0] 23)) = Wra3 at hx1 hSWra3 ⊢
        generalize Value.pointer (some ⟨wzra.heap.size, 0, none⟩) = pv1 at hx1 ⊢
        refine wpAnyH_ready (rs := [6]) (by kernel_rfl) (by simp) ?_
        refine AllReadyH.cons (o := ⟨some 22, _, _, _, _, _⟩) rfl (fun K hK => ?_) AllReadyH.nil
        go_simp
        go_at_call 22
        refine (cP1.out _ hSWra3).mono ?_
        rintro e9 Wra4 ⟨rfl, hb⟩
        replace hx1 := hx1.belowR hb
        have hSWra4 := hSWra3.trans (hb.mono hSWra3.size)
        clear hb
        try clear hSWra3
        go_wp2_with fail
        refine hK.out _ _ hSWra4 (fun hHeld => ?_)
        clear hK hHeld K
        try simp only [Act.put, List.setIfInBounds_toArray, List.set_cons_zero, List.set_cons_succ]
        exact wpAnyH_cast (by kernel_rfl) (by kernel_rfl) (tailra7 pv1 Wra4 hx1 hSWra4)
      case ttailra7 =>
        try clear hS0
        intro pv1 Wra5 hx1 hSWra5
        refine wpAnyH_ready (rs := [8]) (by kernel_rfl) (by simp) ?_
        refine AllReadyH.cons (o := ⟨none, _, _, _, _, _⟩) rfl (fun K hK => ?_) AllReadyH.nil
        refine BoxV.store hx1 p rfl _ _ rfl rfl rfl (fun Wra6 hbx hbo hbW => ?_)
        have hSWra6 := hSWra5.trans hbW
        clear hx1 hbW hbo hSWra5
        have hx1 := hbx
        clear hbx
        refine hK.out _ _ hSWra6 (fun hHeld => ?_)
        clear hK hHeld K
        try simp only [Act.put, List.setIfInBounds_toArray, List.set_cons_zero, List.set_cons_succ]
        refine wpAnyH_done (by kernel_rfl) ?_ _
        obtain ⟨n1, rfl, hn1, bx⟩ := hx1
        have HBx := Lib.hid hSWra6
        have HOx := Lib.hid (HOb.out _ hSWra6)
        have HBw := Lib.hid (hbw.out _ hSWra6)
        have HBz := Lib.hid (HB.out.trans (hSWra6.mono HB.out.size))
        clear hSWra6 HO HOb hbw HB cP1 HRd HG2
        generalize Wra6 = w1 at *
        obtain ⟨j1, j2, _, _, _⟩ := bx.cel
        clear bx
        have hOl := HLe.out k
        have hNl : (T k).length + 1 ≤ 1000000000000 := by omega
        have HNl := Lib.hid hNl
        have hbs := HBz.out.size
        clear hNl
        by_cases hk0 : k = 0
        · subst hk0
          have HT := Lib.hid (show T (0 + 1) = T 0 ++ [p] by rw [HOn.out, HZe.out, ← HP.out]; rfl)
          rw [HZe.out] at HOx HNl ⊢
          rw [HZe.out] at HT
          dsimp only [List.length_nil] at HNl ⊢
          go_upto_region 6 with fail
          go_quiet (fail)
          go_wp2_with (refine Try.appP (HOx.out.drewN _) p rfl _ _ rfl rfl rfl HNl.out hbs ?_; intro v9 w9 ho9 hb9)
          rw [← HT.out] at ho9
          have HO9 := Lib.hid ho9
          have HB9 := Lib.hid hb9
          clear ho9 hb9
          go_roundw
          case rel => exact ⟨_, by omega, by go_num, HO9.out, (below_drewN HBz.out _).trans HB9.out⟩
          case measure => simp [intOf]; omega
        · obtain ⟨hl1, hl2⟩ := HLa.out k (by omega)
          obtain ⟨b2, off2, rfl, hbl2, g1, g2⟩ := RdR.get (Own.rd encR_len HOx.out) (Below.refl _ _) (j := (T k).length - 1) (by omega)
          rw [hl2] at g1 g2
          obtain ⟨y1, hy1⟩ : ∃ z, P[k - 1]! = z := ⟨_, rfl⟩
          rw [hy1] at g1 g2
          have HY := Lib.hid hy1
          clear hy1 hl2
          have hln : (((T k).length : Nat) : Int) - 1 = (((T k).length - 1 : Nat) : Int) := by omega
          have hi0 : (0 : Int) ≤ (((T k).length - 1 : Nat) : Int) := by omega
          have hi1 : (((T k).length - 1 : Nat) : Int) < (((T k).length : Nat) : Int) := by omega
          have hz0 : ((((T k).length : Nat) : Int) == 0) = false := by rw [beq_eq_false_iff_ne]; omega
          have hz1 : ¬ (T k).length = 0 := by omega
          obtain ⟨p1, p2⟩ := p
          obtain ⟨z1, z2⟩ := y1
          dsimp only at j1 j2 g1 g2
          by_cases hd : (z1, z2) = (p1, p2)
          · have HT := Lib.hid (HDr.out k (by omega) (by rw [HY.out, HP.out, hd]))
            have HO9 := Lib.hid (show OwnR 23 w1 w0.heap.size _ (T (k + 1)) by rw [HT.out]; exact HOx.out)
            clear HOx
            go_upto_region 6 with fail
            go_quiet (fail)
            go_wp2
            go_roundw
            case rel => exact ⟨k + 1, by omega, by go_num, HO9.out.drewN _, below_drewN HBz.out _⟩
            case measure => simp [intOf]; omega
          · have HT := Lib.hid ((HKp.out k (by omega) (by rw [HY.out, HP.out]; exact hd)).trans (by rw [HP.out]))
            go_upto_region 6 with fail
            go_quiet (fail)
            go_wp2_with (refine Try.appP (HOx.out.drewN _) (p1, p2) rfl _ _ rfl rfl rfl HNl.out hbs ?_; intro v9 w9 ho9 hb9)
            rw [← HT.out] at ho9
            have HO9 := Lib.hid ho9
            have HB9 := Lib.hid hb9
            clear ho9 hb9
            go_roundw
            case rel => exact ⟨_, by omega, by go_num, HO9.out, (below_drewN HBz.out _).trans HB9.out⟩
            case measure => simp [intOf]; omega
end Go.Proofs
