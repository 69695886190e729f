/- The reference's small functions: height, rounded, ends. -/
import Derived.Test.YtcfhhkdjdpkjpaaXJ4
set_option linter.unusedVariables false
set_option linter.unusedSimpArgs false
namespace Go.Proofs
open Go.RowKit Go.Proofs.Mp Go.Lib

theorem blk2 (w : World) (o1 o2 : Obj) : ((w.alloc o1).alloc o2).heap[w.heap.size]? = some o1 ∧ ((w.alloc o1).alloc o2).heap[w.heap.size + 1]? = some o2 ∧ Below w.heap.size w ((w.alloc o1).alloc o2) ∧ ((w.alloc o1).alloc o2).heap.size = w.heap.size + 1 + 1 := by
  have h1 := heap_alloc_new w o1
  have hs1 : (w.alloc o1).heap.size = w.heap.size + 1 := by simp
  have b1 := bw1 (w.alloc o1) o2
  have h2 := heap_alloc_new (w.alloc o1) o2
  rw [hs1] at h2
  exact ⟨(b1.block _ (by omega)).trans h1, h2, (bw1 w o1).trans (b1.mono (by omega)), by simp⟩
theorem blk3 (w : World) (o1 o2 o3 : Obj) : (((w.alloc o1).alloc o2).alloc o3).heap[w.heap.size]? = some o1 ∧ (((w.alloc o1).alloc o2).alloc o3).heap[w.heap.size + 1]? = some o2 ∧ (((w.alloc o1).alloc o2).alloc o3).heap[w.heap.size + 1 + 1]? = some o3 ∧
    Below w.heap.size w (((w.alloc o1).alloc o2).alloc o3) ∧ (((w.alloc o1).alloc o2).alloc o3).heap.size = w.heap.size + 1 + 1 + 1 := by
  obtain ⟨h1, h2, b1, hs1⟩ := blk2 w o1 o2
  have b2 := bw1 ((w.alloc o1).alloc o2) o3
  have h3 := heap_alloc_new ((w.alloc o1).alloc o2) o3
  rw [hs1] at h3
  exact ⟨(b2.block _ (by omega)).trans h1, (b2.block _ (by omega)).trans h2, h3, b1.trans (b2.mono (by omega)), by simp⟩
set_option maxRecDepth 100000 in
set_option maxHeartbeats 2000000 in
theorem ref_height (t : Ht) (W c r i : Nat) (w : World) (hW : t.w = (W : Int)) (hW1 : W ≤ 64) (hc : c ≤ 64) (hr : r ≤ 64) (hi : r * W + c = i) (hil : i < t.v.length) (hR : RdI w t.a t.v) :
    Calls Try.prog 46 #[aggH t, .agg #[.int .i64 c, .int .i64 r]] w (RetV w (.int .i64 t.v[i]!)) := by
  have hb0 : Below w.heap.size w ((w.alloc (.cells (celH t) 26)).alloc (.cells #[.int .i64 c, .int .i64 r] 23)) := (bw1 _ _).alloc (by simp) _
  obtain ⟨b, off, hA, hbb, hcc⟩ := RdI.all hR (by omega)
  have g1 := hcc _ hb0 i hil
  have hm : r * W ≤ 64 * 64 := Nat.mul_le_mul hr hW1
  have hmi : ((r * W : Nat) : Int) = (r : Int) * (W : Int) := Int.natCast_mul r W
  have hix : (r : Int) * (W : Int) + (c : Int) = (i : Int) := by omega
  have hw1 : IntKind.i64.wrap ((r : Int) * (W : Int)) = (r : Int) * (W : Int) := IntWalk.i64_in _ (by omega)
  have hw2 : IntKind.i64.wrap (i : Int) = (i : Int) := IntWalk.i64_in _ (by omega)
  have hi0 : (0 : Int) ≤ (i : Int) := by omega
  have hil2 : (i : Int) < (t.v.length : Int) := by omega
  have HB := Lib.hid hb0
  generalize t.v[i]! = z at *
  obtain ⟨x, y, tw, th, st, A, cc, v⟩ := t
  unfold aggH celH at *
  dsimp only at *
  subst hW hA
  clear hb0 hcc hR hmi hi hm hil
  go_enter Try.func46, Try.ntmps46
  go_wp2
  go_ret
  exact ⟨rfl, HB.out⟩

theorem flo_tdiv {a b : Int} (hb : 0 < b) : flo a b = if a.tmod b < 0 then a.tdiv b - 1 else a.tdiv b := by
  rcases go_div a b (by omega) with ⟨h1, h2, _⟩ | ⟨h1, h2, h3, _⟩ | ⟨h1, h2, h3, _⟩
  · rw [if_neg (by omega), h2]
  · rw [if_neg (by omega), h3]
  · rw [if_pos (by omega), h3]
set_option maxHeartbeats 1000000 in
theorem ref_rounded (n d : Int) (w : World) (h1 : -1152921504606846976 ≤ n) (h2 : n ≤ 1152921504606846976) (hb : 0 < d) (hb2 : d ≤ 1152921504606846976) :
    Calls Try.prog 47 #[.int .i64 n, .int .i64 d] w (RetV w (.int .i64 (rnd n d))) := by
  have HR := Lib.hid (show rnd n d = if (2 * n + d).tmod (2 * d) < 0 then (2 * n + d).tdiv (2 * d) - 1 else (2 * n + d).tdiv (2 * d) from flo_tdiv (by omega))
  have hq := quo_bound (2 * n + d) (2 * d) (by omega) (by omega) (by omega)
  obtain ⟨q1, q2⟩ := hq
  generalize rnd n d = r at *
  have hz : ¬ 2 * d = 0 := by omega
  have hz2 : ((2 * d : Int) == 0) = false := by rw [beq_eq_false_iff_ne]; omega
  have hwq : IntKind.i64.wrap ((2 * n + d).tdiv (2 * d)) = (2 * n + d).tdiv (2 * d) := IntWalk.i64_in _ (by omega)
  by_cases hs : (2 * n + d).tmod (2 * d) < 0
  · have HR2 := Lib.hid (HR.out.trans (if_pos hs))
    clear HR
    go_enter Try.func47, Try.ntmps47
    go_wp2
    go_ret
    exact ⟨by rw [HR2.out]; rfl, Below.refl _ _⟩
  · have HR2 := Lib.hid (HR.out.trans (if_neg hs))
    clear HR
    go_enter Try.func47, Try.ntmps47
    go_wp2
    go_ret
    exact ⟨by rw [HR2.out]; rfl, Below.refl _ _⟩

theorem below_setP' {w W : World} {B m : Nat} (h : Below B w W) (hm : B ≤ m) (q : Pt) : Below B w (setP W m q) := (h.setCell (p := ⟨m, 0, none⟩) hm _).setCell (p := ⟨m, 1, none⟩) hm _
structure EndsM (w W : World) (t : Ht) (p q : Pt) : Prop where
  row : RowH W w.heap.size t
  r1 : BoxP W (w.heap.size + 1) (0, 0)
  r2 : BoxP W (w.heap.size + 1 + 1) (0, 0)
  a : BoxP W (w.heap.size + 1 + 1 + 1) p
  b : BoxP W (w.heap.size + 1 + 1 + 1 + 1) q
  bl : Below w.heap.size w W
theorem EndsM.mk' {w w0 : World} {t : Ht} (p q : Pt) (hrow : RowH w0 w.heap.size t) (h1 : BoxP w0 (w.heap.size + 1) (0, 0)) (h2 : BoxP w0 (w.heap.size + 1 + 1) (0, 0)) (hB : Below w.heap.size w w0) (hz : w0.heap.size = w.heap.size + 1 + 1 + 1) :
    EndsM w ((w0.alloc (.cells #[.int .i64 p.1, .int .i64 p.2] 23)).alloc (.cells #[.int .i64 q.1, .int .i64 q.2] 23)) t p q := by
  obtain ⟨k1, k2, hb, hz2⟩ := blk2 w0 (.cells #[.int .i64 p.1, .int .i64 p.2] 23) (.cells #[.int .i64 q.1, .int .i64 q.2] 23)
  rw [hz] at k1 k2
  exact ⟨hrow.below hb, h1.below hb, h2.below hb, k1, k2, hB.trans (hb.mono (by omega))⟩
theorem BoxP.s0 {W : World} {g : Nat} {p : Pt} (h : BoxP W g p) (z : Int) : BoxP (W.setCell ⟨g, 0, none⟩ (.int .i64 z)) g (z, p.2) := by
  unfold BoxP at *; rw [heap_setCell_same W g 0 _ 23 _ h]; rfl
theorem BoxP.s1 {W : World} {g : Nat} {p : Pt} (h : BoxP W g p) (z : Int) : BoxP (W.setCell ⟨g, 1, none⟩ (.int .i64 z)) g (p.1, z) := by
  unfold BoxP at *; rw [heap_setCell_same W g 1 _ 23 _ h]; rfl
theorem EndsM.sb {w W : World} {t : Ht} {p q : Pt} (h : EndsM w W t p q) (j : Nat) (z : Value) {q' : Pt} (hq : BoxP (W.setCell ⟨w.heap.size + 1 + 1 + 1 + 1, j, none⟩ z) (w.heap.size + 1 + 1 + 1 + 1) q') : EndsM w (W.setCell ⟨w.heap.size + 1 + 1 + 1 + 1, j, none⟩ z) t p q' := by
  refine ⟨?_, ?_, ?_, ?_, hq, h.bl.setCell (by simp; omega) z⟩
  · have := h.row; unfold RowH at *; rw [heap_setCell_other _ _ _ _ (by simp; omega)]; exact this
  · have := h.r1; unfold BoxP at *; rw [heap_setCell_other _ _ _ _ (by simp)]; exact this
  · have := h.r2; unfold BoxP at *; rw [heap_setCell_other _ _ _ _ (by simp)]; exact this
  · have := h.a; unfold BoxP at *; rw [heap_setCell_other _ _ _ _ (by simp)]; exact this
theorem EndsM.sx {w W : World} {t : Ht} {p q : Pt} (h : EndsM w W t p q) (z : Int) : EndsM w (W.setCell ⟨w.heap.size + 1 + 1 + 1 + 1, 0, none⟩ (.int .i64 z)) t p (z, q.2) := h.sb 0 _ (h.b.s0 z)
theorem EndsM.sy {w W : World} {t : Ht} {p q : Pt} (h : EndsM w W t p q) (z : Int) : EndsM w (W.setCell ⟨w.heap.size + 1 + 1 + 1 + 1, 1, none⟩ (.int .i64 z)) t p (q.1, z) := h.sb 1 _ (h.b.s1 z)
/-- what the last region leaves alone -/
structure EndsS (w W : World) (t : Ht) (p q : Pt) : Prop where
  row : RowH W w.heap.size t
  a : BoxP W (w.heap.size + 1 + 1 + 1) p
  b : BoxP W (w.heap.size + 1 + 1 + 1 + 1) q
  bl : Below w.heap.size w W
theorem EndsS.stP {w W : World} {t : Ht} {p q : Pt} (h : EndsS w W t p q) (m : Nat) (h1 : m = w.heap.size + 1 ∨ m = w.heap.size + 1 + 1) (z : Pt) : EndsS w (setP W m z) t p q := by
  refine ⟨?_, h.a.other (by omega) z, h.b.other (by omega) z, below_setP' h.bl (by omega) z⟩
  have := h.row
  unfold RowH setP at *
  rw [heap_setCell_other _ _ _ _ (by simp; omega), heap_setCell_other _ _ _ _ (by simp; omega)]
  exact this
theorem BoxP.store {ops : Array Oper} {o : Oper} {a : Act} {K : Act → World → Prop} {Q : Exit → Act → World → Prop} {E : Prop} {w : World} {g : Nat} {p : Pt} (h : BoxP w g p) (q : Pt) (hgd : o.guard = none) (X Y : Operand) (ho : o.op = .store 23 X Y)
    (hx : a.eval X = .pointer (some ⟨g, 0, none⟩)) (hy : a.eval Y = .agg #[.int .i64 q.1, .int .i64 q.2]) (hK : K (a.put o.dst undef) (setP w g q)) :
    if Region.wanted o (yielded ops a.tmps) = true then Oper.wp Try.prog o a w K Q else E := by
  have hw : Region.wanted o (yielded ops a.tmps) = true := by simp [Region.wanted, hgd]
  rw [if_pos hw]
  obtain ⟨k1, k2, f1, f2, l1⟩ := h.cel
  unfold setP at hK
  unfold Oper.wp execOp
  simp only [ho, hx, hy]
  go_simp
  exact hK
/-- the ends of an edge: column and row -/
def eA (W e : Nat) : Nat × Nat := (e / 3 % W, e / 3 / W)
def eB (W e : Nat) : Nat × Nat := (e / 3 % W + (if e % 3 = 1 then 0 else 1), e / 3 / W + (if e % 3 = 0 then 0 else 1))
def okE (W H e : Nat) : Bool := decide ((eB W e).1 < W) && decide ((eB W e).2 < H)
abbrev aggN (p : Nat × Nat) : Value := .agg #[.int .i64 (p.1 : Int), .int .i64 (p.2 : Int)]
set_option maxRecDepth 100000 in
set_option maxHeartbeats 4000000 in
theorem ref_ends (t : Ht) (W H e : Nat) (w : World) (hW : t.w = (W : Int)) (hH : t.h = (H : Int)) (hW0 : 1 ≤ W) (hW1 : W ≤ 64) (he : e ≤ 20000) :
    Calls Try.prog 45 #[aggH t, .int .i64 e] w (RetV w (.tuple #[aggN (eA W e), aggN (eB W e), .bool (okE W H e)])) := by
  have HA := Lib.hid (show eA W e = (e / 3 % W, e / 3 / W) from rfl)
  have HBb := Lib.hid (show eB W e = (e / 3 % W + (if e % 3 = 1 then 0 else 1), e / 3 / W + (if e % 3 = 0 then 0 else 1)) from rfl)
  have HO := Lib.hid (show okE W H e = (decide ((eB W e).1 < W) && decide ((eB W e).2 < H)) from rfl)
  generalize eA W e = ea at *
  generalize eB W e = eb at *
  generalize okE W H e = ok at *
  have ht3 : ((e : Int)).tdiv 3 = ((e / 3 : Nat) : Int) := rfl
  have hm3 : ((e : Int)).tmod 3 = ((e % 3 : Nat) : Int) := rfl
  have hs3 : e % 3 < 3 := Nat.mod_lt _ (by omega)
  have hi : e / 3 ≤ 20000 := by omega
  generalize e / 3 = i at *
  generalize e % 3 = s at *
  have hr : ((i : Int)).tmod (W : Int) = ((i % W : Nat) : Int) := rfl
  have hq : ((i : Int)).tdiv (W : Int) = ((i / W : Nat) : Int) := rfl
  have hm1 : i % W < 64 := Nat.lt_of_lt_of_le (Nat.mod_lt _ (by omega)) hW1
  have hm2 : i / W ≤ 20000 := Nat.le_trans (Nat.div_le_self _ _) (by omega)
  have hw0 : ¬ W = 0 := by omega
  generalize i % W = m at *
  generalize i / W = q at *
  have hwm : IntKind.i64.wrap (m : Int) = (m : Int) := IntWalk.i64_in _ (by omega)
  have hwq : IntKind.i64.wrap (q : Int) = (q : Int) := IntWalk.i64_in _ (by omega)
  have hwi : IntKind.i64.wrap (i : Int) = (i : Int) := IntWalk.i64_in _ (by omega)
  obtain ⟨x, y, tw, th, st, A, c, v⟩ := t
  unfold aggH celH aggN
  dsimp only at *
  subst hW hH
  obtain ⟨k1, k2, k3, hB, hz⟩ := blk3 w (.cells #[.int .i64 x, .int .i64 y, .int .i64 W, .int .i64 H, .int .i64 st, .slice A v.length c] 26) (.cells #[.int .i64 0, .int .i64 0] 23) (.cells #[.int .i64 0, .int .i64 0] 23)
  have hrow : RowH _ w.heap.size ⟨x, y, W, H, st, A, c, v⟩ := k1
  have hb1 : BoxP _ (w.heap.size + 1) (0, 0) := k2
  have hb2 : BoxP _ (w.heap.size + 1 + 1) (0, 0) := k3
  clear k1 k2 k3
  obtain ⟨d0, d1, d2, d3, d4, d5⟩ := hrow.cells
  dsimp only at d0 d1 d2 d3 d4 d5
  go_enter Try.func45, Try.ntmps45
  go_upto_region 1 with fail
  generalize (((w.alloc (.cells #[.int .i64 x, .int .i64 y, .int .i64 W, .int .i64 H, .int .i64 st, .slice A v.length c] 26)).alloc (.cells #[.int .i64 0, .int .i64 0] 23)).alloc (.cells #[.int .i64 0, .int .i64 0] 23)) = w0 at *
  go_quiet (fail)
  go_upto_region 2 with fail
  go_upto_block 0 with fail
  have hM := EndsM.mk' (w := w) (w0 := w0.drewN nq) ((m : Int), (q : Int)) ((m : Int), (q : Int)) hrow hb1 hb2 (below_drewN hB _) hz
  dsimp only at hM
  generalize ((w0.drewN nq).alloc (.cells #[.int .i64 m, .int .i64 q] 23)).alloc (.cells #[.int .i64 m, .int .i64 q] 23) = w1 at *
  clear hrow hb1 hb2 hB hz d0 d1 d2 d3 d4 d5
  obtain ⟨mb, hmb⟩ : ∃ mb : Nat, m + (if s = 1 then 0 else 1) = mb := ⟨_, rfl⟩
  obtain ⟨qb, hqb⟩ : ∃ qb : Nat, q + (if s = 0 then 0 else 1) = qb := ⟨_, rfl⟩
  rw [hmb, hqb] at HBb
  have HMB := Lib.hid hmb
  have HQB := Lib.hid hqb
  have hml : (mb : Int) ≤ 65 := by rw [← hmb]; split <;> omega
  have hql : (qb : Int) ≤ 20001 := by rw [← hqb]; split <;> omega
  clear hmb hqb
  go_cut [] (fun wc => EndsM w wc ⟨x, y, W, H, st, A, c, v⟩ ((m : Int), (q : Int)) ((mb : Int), (qb : Int)))
  case first =>
    have b1 := hM.b.c0
    have b2 := hM.b.c1
    have f1 := hM.b.f0
    have f2 := hM.b.f1
    dsimp only at b1 b2
    rcases (by omega : s = 0 ∨ s = 1 ∨ s = 2) with rfl | rfl | rfl
    · have e1 : mb = m + 1 := by rw [← HMB.out]; simp
      have e2 : qb = q := by rw [← HQB.out]; simp
      have hM2 := hM.sx ((m : Int) + 1)
      rw [show ((0 : Nat) : Int) = 0 from rfl] at *
      go_wp2
      go_meet
      rw [e1, e2]
      exact hM2
    · have e1 : mb = m := by rw [← HMB.out]; simp
      have e2 : qb = q + 1 := by rw [← HQB.out]; simp
      have hM2 := hM.sy ((q : Int) + 1)
      rw [show ((1 : Nat) : Int) = 1 from rfl] at *
      go_wp2
      go_meet
      rw [e1, e2]
      exact hM2
    · have e1 : mb = m + 1 := by rw [← HMB.out]; simp
      have e2 : qb = q + 1 := by rw [← HQB.out]; simp
      have hM2 := (hM.sx ((m : Int) + 1)).sy ((q : Int) + 1)
      rw [show ((2 : Nat) : Int) = 2 from rfl] at *
      go_wp2
      go_meet
      rw [e1, e2]
      exact hM2
  case rest =>
    have hS : EndsS w wc.drew ⟨x, y, W, H, st, A, c, v⟩ ((m : Int), (q : Int)) ((mb : Int), (qb : Int)) := ⟨hcut.row, hcut.a, hcut.b, hcut.bl.drew⟩
    have hx1 := hcut.r1
    have hx2 := hcut.r2
    clear hcut hM
    rw [HBb.out] at HO
    dsimp only at HO
    go_upto_region 10 with fail
    by_cases h1 : mb < W
    · have g1 : (mb : Int) < (W : Int) := by omega
      have HO2 := Lib.hid (show ok = decide (qb < H) by rw [HO.out, decide_eq_true h1]; rfl)
      clear HO h1
      have hok : decide (qb < H) = ok := HO2.out.symm
      have hok2 : decide ((qb : Int) < (H : Int)) = ok := by rw [HO2.out]; exact decide_eq_decide.2 (by omega)
      have hS0 : (fun W' : World => EndsS w W' ⟨x, y, W, H, st, A, c, v⟩ ((m : Int), (q : Int)) ((mb : Int), (qb : Int))) wc.drew := hS
      clear hS
      refine wp_region_held_drew (S := (fun W' : World => EndsS w W' ⟨x, y, W, H, st, A, c, v⟩ ((m : Int), (q : Int)) ((mb : Int), (qb : Int)))) (by kernel_rfl) hS0 (fun hHeld => ?_)
      clear hHeld
      have hx1' : BoxP wc.drew (w.heap.size + 1) (0, 0) := hx1
      have hx2' : BoxP wc.drew (w.heap.size + 1 + 1) (0, 0) := hx2
      clear hx1 hx2
      have hx1 := hx1'
      have hx2 := hx2'
      clear hx1' hx2'
      generalize wc.drew = wzra at *
      refine wpAnyH_take (i := 0) (oi := ⟨some 49, _, _, _, _, _⟩) (v := ?vra1) rfl (by kernel_rfl) (by kernel_rfl) (by kernel_rfl) (fun _ _ _ h => h) (Or.inl ⟨by kernel_rfl, ?hyra1⟩) (by assumption) ?restra1
      case hyra1 => (intro W hSw; obtain ⟨d0, d1, d2, d3, d4, d5⟩ := hSw.row.cells; obtain ⟨a1, a2, _, _, _⟩ := hSw.a.cel; obtain ⟨b1, b2, _, _, _⟩ := hSw.b.cel; dsimp only at d0 d1 d2 d3 d4 d5 a1 a2 b1 b2; clear hSw; (try dsimp only at hSw); go_simp; try with_reducible rfl)
      case' restra1 => try simp only [Act.put, List.setIfInBounds_toArray, List.set_cons_zero, List.set_cons_succ]
      refine wpAnyH_take (i := 1) (oi := ⟨some 50, _, _, _, _, _⟩) (v := ?vra2) rfl (by kernel_rfl) (by kernel_rfl) (by kernel_rfl) (fun _ _ _ h => h) (Or.inl ⟨by kernel_rfl, ?hyra2⟩) (by assumption) ?restra2
      case hyra2 => (intro W hSw; obtain ⟨d0, d1, d2, d3, d4, d5⟩ := hSw.row.cells; obtain ⟨a1, a2, _, _, _⟩ := hSw.a.cel; obtain ⟨b1, b2, _, _, _⟩ := hSw.b.cel; dsimp only at d0 d1 d2 d3 d4 d5 a1 a2 b1 b2; clear hSw; (try dsimp only at hSw); go_simp; try with_reducible rfl)
      case' restra2 => try simp only [Act.put, List.setIfInBounds_toArray, List.set_cons_zero, List.set_cons_succ]
      refine wpAnyH_take (i := 2) (oi := ⟨some 51, _, _, _, _, _⟩) (v := ?vra3) rfl (by kernel_rfl) (by kernel_rfl) (by kernel_rfl) (fun _ _ _ h => h) (Or.inl ⟨by kernel_rfl, ?hyra3⟩) (by assumption) ?restra3
      case hyra3 => (intro W hSw; (try dsimp only at hSw); go_simp; try with_reducible rfl)
      case' restra3 => try simp only [Act.put, List.setIfInBounds_toArray, List.set_cons_zero, List.set_cons_succ]
      refine wpAnyH_take (i := 3) (oi := ⟨some 52, _, _, _, _, _⟩) (v := ?vra4) rfl (by kernel_rfl) (by kernel_rfl) (by kernel_rfl) (fun _ _ _ h => h) (Or.inl ⟨by kernel_rfl, ?hyra4⟩) (by assumption) ?restra4
      case hyra4 => (intro W hSw; obtain ⟨d0, d1, d2, d3, d4, d5⟩ := hSw.row.cells; obtain ⟨a1, a2, _, _, _⟩ := hSw.a.cel; obtain ⟨b1, b2, _, _, _⟩ := hSw.b.cel; dsimp only at d0 d1 d2 d3 d4 d5 a1 a2 b1 b2; clear hSw; (try dsimp only at hSw); go_simp; try with_reducible rfl)
      case' restra4 => try simp only [Act.put, List.setIfInBounds_toArray, List.set_cons_zero, List.set_cons_succ]
      refine wpAnyH_take (i := 4) (oi := ⟨some 53, _, _, _, _, _⟩) (v := ?vra5) rfl (by kernel_rfl) (by kernel_rfl) (by kernel_rfl) (fun _ _ _ h => h) (Or.inl ⟨by kernel_rfl, ?hyra5⟩) (by assumption) ?restra5
      case hyra5 => (intro W hSw; (try dsimp only at hSw); go_simp; try with_reducible rfl)
      case' restra5 => try simp only [Act.put, List.setIfInBounds_toArray, List.set_cons_zero, List.set_cons_succ]
      refine wpAnyH_take (i := 5) (oi := ⟨some 54, _, _, _, _, _⟩) (v := ?vra6) rfl (by kernel_rfl) (by kernel_rfl) (by kernel_rfl) (fun _ _ _ h => h) (Or.inl ⟨by kernel_rfl, ?hyra6⟩) (by assumption) ?restra6
      case hyra6 => (intro W hSw; obtain ⟨d0, d1, d2, d3, d4, d5⟩ := hSw.row.cells; obtain ⟨a1, a2, _, _, _⟩ := hSw.a.cel; obtain ⟨b1, b2, _, _, _⟩ := hSw.b.cel; dsimp only at d0 d1 d2 d3 d4 d5 a1 a2 b1 b2; clear hSw; (try dsimp only at hSw); go_simp; try with_reducible rfl)
      case' restra6 => try simp only [Act.put, List.setIfInBounds_toArray, List.set_cons_zero, List.set_cons_succ]
      refine wpAnyH_take (i := 6) (oi := ⟨some 55, _, _, _, _, _⟩) (v := ?vra7) rfl (by kernel_rfl) (by kernel_rfl) (by kernel_rfl) (fun _ _ _ h => h) (Or.inl ⟨by kernel_rfl, ?hyra7⟩) (by assumption) ?restra7
      case hyra7 => (intro W hSw; (try dsimp only at hSw); go_simp; try with_reducible rfl)
      case' restra7 => try simp only [Act.put, List.setIfInBounds_toArray, List.set_cons_zero, List.set_cons_succ]
      refine wpAnyH_take (i := 7) (oi := ⟨some 56, _, _, _, _, _⟩) (v := ?vra8) rfl (by kernel_rfl) (by kernel_rfl) (by kernel_rfl) (fun _ _ _ h => h) (Or.inl ⟨by kernel_rfl, ?hyra8⟩) (by assumption) ?restra8
      case hyra8 => (intro W hSw; (try dsimp only at hSw); go_simp; try with_reducible rfl)
      case' restra8 => try simp only [Act.put, List.setIfInBounds_toArray, List.set_cons_zero, List.set_cons_succ]
      refine wpAnyH_take (i := 8) (oi := ⟨some 57, _, _, _, _, _⟩) (v := ?vra9) rfl (by kernel_rfl) (by kernel_rfl) (by kernel_rfl) (fun _ _ _ h => h) (Or.inl ⟨by kernel_rfl, ?hyra9⟩) (by assumption) ?restra9
      case hyra9 => (intro W hSw; (try dsimp only at hSw); go_simp; try with_reducible rfl)
      case' restra9 => try simp only [Act.put, List.setIfInBounds_toArray, List.set_cons_zero, List.set_cons_succ]
      refine wpAnyH_take (i := 9) (oi := ⟨some 58, _, _, _, _, _⟩) (v := ?vra10) rfl (by kernel_rfl) (by kernel_rfl) (by kernel_rfl) (fun _ _ _ h => h) (Or.inl ⟨by kernel_rfl, ?hyra10⟩) (by assumption) ?restra10
      case hyra10 => (intro W hSw; obtain ⟨d0, d1, d2, d3, d4, d5⟩ := hSw.row.cells; obtain ⟨a1, a2, _, _, _⟩ := hSw.a.cel; obtain ⟨b1, b2, _, _, _⟩ := hSw.b.cel; dsimp only at d0 d1 d2 d3 d4 d5 a1 a2 b1 b2; clear hSw; (try dsimp only at hSw); go_simp; try with_reducible rfl)
      case' restra10 => try simp only [Act.put, List.setIfInBounds_toArray, List.set_cons_zero, List.set_cons_succ]
      refine wpAnyH_take (i := 10) (oi := ⟨some 59, _, _, _, _, _⟩) (v := ?vra11) rfl (by kernel_rfl) (by kernel_rfl) (by kernel_rfl) (fun _ _ _ h => h) (Or.inl ⟨by kernel_rfl, ?hyra11⟩) (by assumption) ?restra11
      case hyra11 => (intro W hSw; (try dsimp only at hSw); go_simp; try with_reducible rfl)
      case' restra11 => try simp only [Act.put, List.setIfInBounds_toArray, List.set_cons_zero, List.set_cons_succ]
      refine wpAnyH_take (i := 11) (oi := ⟨some 60, _, _, _, _, _⟩) (v := ?vra12) rfl (by kernel_rfl) (by kernel_rfl) (by kernel_rfl) (fun _ _ _ h => h) (Or.inl ⟨by kernel_rfl, ?hyra12⟩) (by assumption) ?restra12
      case hyra12 => (intro W hSw; obtain ⟨d0, d1, d2, d3, d4, d5⟩ := hSw.row.cells; obtain ⟨a1, a2, _, _, _⟩ := hSw.a.cel; obtain ⟨b1, b2, _, _, _⟩ := hSw.b.cel; dsimp only at d0 d1 d2 d3 d4 d5 a1 a2 b1 b2; clear hSw; (try dsimp only at hSw); go_simp; try with_reducible rfl)
      case' restra12 => try simp only [Act.put, List.setIfInBounds_toArray, List.set_cons_zero, List.set_cons_succ]
      refine wpAnyH_take (i := 12) (oi := ⟨some 61, _, _, _, _, _⟩) (v := ?vra13) rfl (by kernel_rfl) (by kernel_rfl) (by kernel_rfl) (fun _ _ _ h => h) (Or.inl ⟨by kernel_rfl, ?hyra13⟩) (by assumption) ?restra13
      case hyra13 => (intro W hSw; (try dsimp only at hSw); go_simp; try with_reducible rfl)
      case' restra13 => try simp only [Act.put, List.setIfInBounds_toArray, List.set_cons_zero, List.set_cons_succ]
      refine wpAnyH_take (i := 13) (oi := ⟨some 62, _, _, _, _, _⟩) (v := ?vra14) rfl (by kernel_rfl) (by kernel_rfl) (by kernel_rfl) (fun _ _ _ h => h) (Or.inl ⟨by kernel_rfl, ?hyra14⟩) (by assumption) ?restra14
      case hyra14 => (intro W hSw; (try dsimp only at hSw); go_simp; try with_reducible rfl)
      case' restra14 => try simp only [Act.put, List.setIfInBounds_toArray, List.set_cons_zero, List.set_cons_succ]
      refine wpAnyH_ready (rs := [14]) (by kernel_rfl) (by simp) ?_
      refine AllReadyH.cons (o := ⟨none, _, _, _, _, _⟩) rfl (fun K hK => ?_) AllReadyH.nil
      refine BoxP.store hx1 ((m : Int), (q : Int)) rfl _ _ rfl rfl rfl ?_
      have hSWra1 := hS0.stP (w.heap.size + 1) (.inl rfl) ((m : Int), (q : Int))
      have hmy := hx1.set ((m : Int), (q : Int))
      have hot := hx2.other (by omega) (m := (w.heap.size + 1)) ((m : Int), (q : Int))
      clear hx1 hx2 hS0
      have hx1 := hmy
      have hx2 := hot
      clear hmy hot
      generalize setP wzra (w.heap.size + 1) ((m : Int), (q : Int)) = Wra1 at hx1 hx2 hSWra1 ⊢
      refine hK.out _ _ hSWra1 (fun hHeld => ?_)
      clear hK hHeld K
      try simp only [Act.put, List.setIfInBounds_toArray, List.set_cons_zero, List.set_cons_succ]
      refine wpAnyH_ready (rs := [15]) (by kernel_rfl) (by simp) ?_
      refine AllReadyH.cons (o := ⟨none, _, _, _, _, _⟩) rfl (fun K hK => ?_) AllReadyH.nil
      refine BoxP.store hx2 ((mb : Int), (qb : Int)) rfl _ _ rfl rfl rfl ?_
      have hSWra2 := hSWra1.stP (w.heap.size + 1 + 1) (.inr rfl) ((mb : Int), (qb : Int))
      have hmy := hx2.set ((mb : Int), (qb : Int))
      have hot := hx1.other (by omega) (m := (w.heap.size + 1 + 1)) ((mb : Int), (qb : Int))
      clear hx2 hx1 hSWra1
      have hx2 := hmy
      have hx1 := hot
      clear hmy hot
      generalize setP Wra1 (w.heap.size + 1 + 1) ((mb : Int), (qb : Int)) = Wra2 at hx2 hx1 hSWra2 ⊢
      refine hK.out _ _ hSWra2 (fun hHeld => ?_)
      clear hK hHeld K
      try simp only [Act.put, List.setIfInBounds_toArray, List.set_cons_zero, List.set_cons_succ]
      refine wpAnyH_take (i := 16) (oi := ⟨some 6, _, _, _, _, _⟩) (v := ?vra15) rfl (by kernel_rfl) (by kernel_rfl) (by kernel_rfl) (fun _ _ _ h => h) (Or.inl ⟨by kernel_rfl, ?hyra15⟩) (by assumption) ?restra15
      case hyra15 => (intro W hSw; (try dsimp only at hSw); go_simp; try with_reducible rfl)
      case' restra15 => try simp only [Act.put, List.setIfInBounds_toArray, List.set_cons_zero, List.set_cons_succ]
      refine wpAnyH_done (by kernel_rfl) ?_ _
      obtain ⟨r1, r2, _, _, _⟩ := hx1.cel
      obtain ⟨r3, r4, _, _, _⟩ := hx2.cel
      dsimp only at r1 r2 r3 r4
      have HFB := Lib.hid hSWra2.bl
      clear hx1 hx2 hSWra2
      go_wp2_with fail
      refine bodyPost_ret (v := .tuple #[.agg #[.int .i64 m, .int .i64 q], .agg #[.int .i64 mb, .int .i64 qb], .bool ok]) (by simp [results, Try.results45, go_sem, r1, r2, r3, r4, hok]) rfl ?_
      exact ⟨by rw [HA.out, HBb.out], HFB.out⟩
    · have g1 : ¬ (mb : Int) < (W : Int) := by omega
      obtain rfl : ok = false := by rw [HO.out, decide_eq_false h1]; rfl
      clear HO h1
      have hok : True := trivial
      have hS0 : (fun W' : World => EndsS w W' ⟨x, y, W, H, st, A, c, v⟩ ((m : Int), (q : Int)) ((mb : Int), (qb : Int))) wc.drew := hS
      clear hS
      refine wp_region_held_drew (S := (fun W' : World => EndsS w W' ⟨x, y, W, H, st, A, c, v⟩ ((m : Int), (q : Int)) ((mb : Int), (qb : Int)))) (by kernel_rfl) hS0 (fun hHeld => ?_)
      clear hHeld
      have hx1' : BoxP wc.drew (w.heap.size + 1) (0, 0) := hx1
      have hx2' : BoxP wc.drew (w.heap.size + 1 + 1) (0, 0) := hx2
      clear hx1 hx2
      have hx1 := hx1'
      have hx2 := hx2'
      clear hx1' hx2'
      generalize wc.drew = wzrb at *
      refine wpAnyH_take (i := 0) (oi := ⟨some 49, _, _, _, _, _⟩) (v := ?vrb1) rfl (by kernel_rfl) (by kernel_rfl) (by kernel_rfl) (fun _ _ _ h => h) (Or.inl ⟨by kernel_rfl, ?hyrb1⟩) (by assumption) ?restrb1
      case hyrb1 => (intro W hSw; obtain ⟨d0, d1, d2, d3, d4, d5⟩ := hSw.row.cells; obtain ⟨a1, a2, _, _, _⟩ := hSw.a.cel; obtain ⟨b1, b2, _, _, _⟩ := hSw.b.cel; dsimp only at d0 d1 d2 d3 d4 d5 a1 a2 b1 b2; clear hSw; (try dsimp only at hSw); go_simp; try with_reducible rfl)
      case' restrb1 => try simp only [Act.put, List.setIfInBounds_toArray, List.set_cons_zero, List.set_cons_succ]
      refine wpAnyH_take (i := 1) (oi := ⟨some 50, _, _, _, _, _⟩) (v := ?vrb2) rfl (by kernel_rfl) (by kernel_rfl) (by kernel_rfl) (fun _ _ _ h => h) (Or.inl ⟨by kernel_rfl, ?hyrb2⟩) (by assumption) ?restrb2
      case hyrb2 => (intro W hSw; obtain ⟨d0, d1, d2, d3, d4, d5⟩ := hSw.row.cells; obtain ⟨a1, a2, _, _, _⟩ := hSw.a.cel; obtain ⟨b1, b2, _, _, _⟩ := hSw.b.cel; dsimp only at d0 d1 d2 d3 d4 d5 a1 a2 b1 b2; clear hSw; (try dsimp only at hSw); go_simp; try with_reducible rfl)
      case' restrb2 => try simp only [Act.put, List.setIfInBounds_toArray, List.set_cons_zero, List.set_cons_succ]
      refine wpAnyH_take (i := 2) (oi := ⟨some 51, _, _, _, _, _⟩) (v := ?vrb3) rfl (by kernel_rfl) (by kernel_rfl) (by kernel_rfl) (fun _ _ _ h => h) (Or.inl ⟨by kernel_rfl, ?hyrb3⟩) (by assumption) ?restrb3
      case hyrb3 => (intro W hSw; (try dsimp only at hSw); go_simp; try with_reducible rfl)
      case' restrb3 => try simp only [Act.put, List.setIfInBounds_toArray, List.set_cons_zero, List.set_cons_succ]
      refine wpAnyH_take (i := 3) (oi := ⟨some 52, _, _, _, _, _⟩) (v := ?vrb4) rfl (by kernel_rfl) (by kernel_rfl) (by kernel_rfl) (fun _ _ _ h => h) (Or.inl ⟨by kernel_rfl, ?hyrb4⟩) (by assumption) ?restrb4
      case hyrb4 => (intro W hSw; obtain ⟨d0, d1, d2, d3, d4, d5⟩ := hSw.row.cells; obtain ⟨a1, a2, _, _, _⟩ := hSw.a.cel; obtain ⟨b1, b2, _, _, _⟩ := hSw.b.cel; dsimp only at d0 d1 d2 d3 d4 d5 a1 a2 b1 b2; clear hSw; (try dsimp only at hSw); go_simp; try with_reducible rfl)
      case' restrb4 => try simp only [Act.put, List.setIfInBounds_toArray, List.set_cons_zero, List.set_cons_succ]
      refine wpAnyH_take (i := 4) (oi := ⟨some 53, _, _, _, _, _⟩) (v := ?vrb5) rfl (by kernel_rfl) (by kernel_rfl) (by kernel_rfl) (fun _ _ _ h => h) (Or.inl ⟨by kernel_rfl, ?hyrb5⟩) (by assumption) ?restrb5
      case hyrb5 => (intro W hSw; (try dsimp only at hSw); go_simp; try with_reducible rfl)
      case' restrb5 => try simp only [Act.put, List.setIfInBounds_toArray, List.set_cons_zero, List.set_cons_succ]
      refine wpAnyH_take (i := 5) (oi := ⟨some 54, _, _, _, _, _⟩) (v := ?vrb6) rfl (by kernel_rfl) (by kernel_rfl) (by kernel_rfl) (fun _ _ _ h => h) (Or.inl ⟨by kernel_rfl, ?hyrb6⟩) (by assumption) ?restrb6
      case hyrb6 => (intro W hSw; obtain ⟨d0, d1, d2, d3, d4, d5⟩ := hSw.row.cells; obtain ⟨a1, a2, _, _, _⟩ := hSw.a.cel; obtain ⟨b1, b2, _, _, _⟩ := hSw.b.cel; dsimp only at d0 d1 d2 d3 d4 d5 a1 a2 b1 b2; clear hSw; (try dsimp only at hSw); go_simp; try with_reducible rfl)
      case' restrb6 => try simp only [Act.put, List.setIfInBounds_toArray, List.set_cons_zero, List.set_cons_succ]
      refine wpAnyH_take (i := 6) (oi := ⟨some 55, _, _, _, _, _⟩) (v := ?vrb7) rfl (by kernel_rfl) (by kernel_rfl) (by kernel_rfl) (fun _ _ _ h => h) (Or.inl ⟨by kernel_rfl, ?hyrb7⟩) (by assumption) ?restrb7
      case hyrb7 => (intro W hSw; (try dsimp only at hSw); go_simp; try with_reducible rfl)
      case' restrb7 => try simp only [Act.put, List.setIfInBounds_toArray, List.set_cons_zero, List.set_cons_succ]
      refine wpAnyH_take (i := 7) (oi := ⟨some 56, _, _, _, _, _⟩) (v := ?vrb8) rfl (by kernel_rfl) (by kernel_rfl) (by kernel_rfl) (fun _ _ _ h => h) (Or.inl ⟨by kernel_rfl, ?hyrb8⟩) (by assumption) ?restrb8
      case hyrb8 => (intro W hSw; (try dsimp only at hSw); go_simp; try with_reducible rfl)
      case' restrb8 => try simp only [Act.put, List.setIfInBounds_toArray, List.set_cons_zero, List.set_cons_succ]
      refine wpAnyH_take (i := 8) (oi := ⟨some 57, _, _, _, _, _⟩) (v := undef) rfl (by kernel_rfl) (by kernel_rfl) (by kernel_rfl) (fun _ _ _ h => h) (Or.inr ⟨by kernel_rfl, rfl⟩) (by assumption) ?restrb9
      case' restrb9 => try simp only [Act.put, List.setIfInBounds_toArray, List.set_cons_zero, List.set_cons_succ]
      refine wpAnyH_take (i := 9) (oi := ⟨some 58, _, _, _, _, _⟩) (v := undef) rfl (by kernel_rfl) (by kernel_rfl) (by kernel_rfl) (fun _ _ _ h => h) (Or.inr ⟨by kernel_rfl, rfl⟩) (by assumption) ?restrb10
      case' restrb10 => try simp only [Act.put, List.setIfInBounds_toArray, List.set_cons_zero, List.set_cons_succ]
      refine wpAnyH_take (i := 10) (oi := ⟨some 59, _, _, _, _, _⟩) (v := undef) rfl (by kernel_rfl) (by kernel_rfl) (by kernel_rfl) (fun _ _ _ h => h) (Or.inr ⟨by kernel_rfl, rfl⟩) (by assumption) ?restrb11
      case' restrb11 => try simp only [Act.put, List.setIfInBounds_toArray, List.set_cons_zero, List.set_cons_succ]
      refine wpAnyH_take (i := 11) (oi := ⟨some 60, _, _, _, _, _⟩) (v := undef) rfl (by kernel_rfl) (by kernel_rfl) (by kernel_rfl) (fun _ _ _ h => h) (Or.inr ⟨by kernel_rfl, rfl⟩) (by assumption) ?restrb12
      case' restrb12 => try simp only [Act.put, List.setIfInBounds_toArray, List.set_cons_zero, List.set_cons_succ]
      refine wpAnyH_take (i := 12) (oi := ⟨some 61, _, _, _, _, _⟩) (v := undef) rfl (by kernel_rfl) (by kernel_rfl) (by kernel_rfl) (fun _ _ _ h => h) (Or.inr ⟨by kernel_rfl, rfl⟩) (by assumption) ?restrb13
      case' restrb13 => try simp only [Act.put, List.setIfInBounds_toArray, List.set_cons_zero, List.set_cons_succ]
      refine wpAnyH_take (i := 13) (oi := ⟨some 62, _, _, _, _, _⟩) (v := ?vrb14) rfl (by kernel_rfl) (by kernel_rfl) (by kernel_rfl) (fun _ _ _ h => h) (Or.inl ⟨by kernel_rfl, ?hyrb14⟩) (by assumption) ?restrb14
      case hyrb14 => (intro W hSw; (try dsimp only at hSw); go_simp; try with_reducible rfl)
      case' restrb14 => try simp only [Act.put, List.setIfInBounds_toArray, List.set_cons_zero, List.set_cons_succ]
      refine wpAnyH_ready (rs := [14]) (by kernel_rfl) (by simp) ?_
      refine AllReadyH.cons (o := ⟨none, _, _, _, _, _⟩) rfl (fun K hK => ?_) AllReadyH.nil
      refine BoxP.store hx1 ((m : Int), (q : Int)) rfl _ _ rfl rfl rfl ?_
      have hSWrb1 := hS0.stP (w.heap.size + 1) (.inl rfl) ((m : Int), (q : Int))
      have hmy := hx1.set ((m : Int), (q : Int))
      have hot := hx2.other (by omega) (m := (w.heap.size + 1)) ((m : Int), (q : Int))
      clear hx1 hx2 hS0
      have hx1 := hmy
      have hx2 := hot
      clear hmy hot
      generalize setP wzrb (w.heap.size + 1) ((m : Int), (q : Int)) = Wrb1 at hx1 hx2 hSWrb1 ⊢
      refine hK.out _ _ hSWrb1 (fun hHeld => ?_)
      clear hK hHeld K
      try simp only [Act.put, List.setIfInBounds_toArray, List.set_cons_zero, List.set_cons_succ]
      refine wpAnyH_ready (rs := [15]) (by kernel_rfl) (by simp) ?_
      refine AllReadyH.cons (o := ⟨none, _, _, _, _, _⟩) rfl (fun K hK => ?_) AllReadyH.nil
      refine BoxP.store hx2 ((mb : Int), (qb : Int)) rfl _ _ rfl rfl rfl ?_
      have hSWrb2 := hSWrb1.stP (w.heap.size + 1 + 1) (.inr rfl) ((mb : Int), (qb : Int))
      have hmy := hx2.set ((mb : Int), (qb : Int))
      have hot := hx1.other (by omega) (m := (w.heap.size + 1 + 1)) ((mb : Int), (qb : Int))
      clear hx2 hx1 hSWrb1
      have hx2 := hmy
      have hx1 := hot
      clear hmy hot
      generalize setP Wrb1 (w.heap.size + 1 + 1) ((mb : Int), (qb : Int)) = Wrb2 at hx2 hx1 hSWrb2 ⊢
      refine hK.out _ _ hSWrb2 (fun hHeld => ?_)
      clear hK hHeld K
      try simp only [Act.put, List.setIfInBounds_toArray, List.set_cons_zero, List.set_cons_succ]
      refine wpAnyH_take (i := 16) (oi := ⟨some 6, _, _, _, _, _⟩) (v := ?vrb15) rfl (by kernel_rfl) (by kernel_rfl) (by kernel_rfl) (fun _ _ _ h => h) (Or.inl ⟨by kernel_rfl, ?hyrb15⟩) (by assumption) ?restrb15
      case hyrb15 => (intro W hSw; (try dsimp only at hSw); go_simp; try with_reducible rfl)
      case' restrb15 => try simp only [Act.put, List.setIfInBounds_toArray, List.set_cons_zero, List.set_cons_succ]
      refine wpAnyH_done (by kernel_rfl) ?_ _
      obtain ⟨r1, r2, _, _, _⟩ := hx1.cel
      obtain ⟨r3, r4, _, _, _⟩ := hx2.cel
      dsimp only at r1 r2 r3 r4
      have HFB := Lib.hid hSWrb2.bl
      clear hx1 hx2 hSWrb2
      go_wp2_with fail
      refine bodyPost_ret (v := .tuple #[.agg #[.int .i64 m, .int .i64 q], .agg #[.int .i64 mb, .int .i64 qb], .bool false]) (by simp [results, Try.results45, go_sem, r1, r2, r3, r4, hok]) rfl ?_
      exact ⟨by rw [HA.out, HBb.out], HFB.out⟩
end Go.Proofs
