/- The reference's crossed, Edges and Crossed. -/
import Derived.Test.YtcfhhkdjdpkjpaaXW1
import Derived.Test.YtcfhhkdjdpkjpaaXJ8
set_option linter.unusedVariables false
set_option linter.unusedSimpArgs false
namespace Go.Proofs
open Go.RowKit Go.Proofs.Mp Go.Lib

theorem eA_at {W e : Nat} : (eA W e).2 * W + (eA W e).1 = e / 3 := by unfold eA; exact Nat.div_add_mod' (e / 3) W
theorem eB_at {W e : Nat} : (eB W e).2 * W + (eB W e).1 = e / 3 + offE W e := by
  have h := Nat.div_add_mod' (e / 3) W
  have h3 : e % 3 < 3 := Nat.mod_lt _ (by omega)
  unfold eB offE
  dsimp only
  rcases (by omega : e % 3 = 0 ∨ e % 3 = 1 ∨ e % 3 = 2) with g | g | g <;> rw [g] <;> simp [Nat.succ_mul] <;> omega
theorem okE_isE {W H e : Nat} (hW : 1 ≤ W) (he : e < 3 * W * H) : okE W H e = isE W H e := by
  have hr : e / 3 / W < H := by
    rw [Nat.div_lt_iff_lt_mul (by omega)]
    have : 3 * W * H = 3 * (H * W) := by rw [Nat.mul_assoc, Nat.mul_comm W H]
    omega
  have hc : e / 3 % W < W := Nat.mod_lt _ (by omega)
  have h3 : e % 3 < 3 := Nat.mod_lt _ (by omega)
  unfold okE isE eB
  dsimp only
  generalize e / 3 / W = q at *
  generalize e / 3 % W = m at *
  rcases (by omega : e % 3 = 0 ∨ e % 3 = 1 ∨ e % 3 = 2) with h | h | h <;> rw [h] <;> simp [hr, hc]
/-- two boxes beside a grid -/
structure HP2 (w : World) (g k : Nat) (t : Ht) (p q : Pt) (W : World) : Prop where
  row : RowH W w.heap.size t
  a : BoxP W g p
  b : BoxP W k q
  bl : Below w.heap.size w W
theorem HP2.below {w W W' : World} {g k : Nat} {t : Ht} {p q : Pt} (h : HP2 w g k t p q W) (hb : Below W.heap.size W W') : HP2 w g k t p q W' :=
  ⟨h.row.below hb, h.a.below hb, h.b.below hb, h.bl.trans (hb.mono h.bl.size)⟩
theorem HP2.new {w w1 : World} {t : Ht} (p q : Pt) (hrow : RowH w1 w.heap.size t) (hb : Below w.heap.size w w1) : HP2 w w1.heap.size (w1.heap.size + 1) t p q ((w1.alloc (.cells #[.int .i64 p.1, .int .i64 p.2] 23)).alloc (.cells #[.int .i64 q.1, .int .i64 q.2] 23)) := by
  obtain ⟨k1, k2, hb2, hz2⟩ := blk2 w1 (.cells #[.int .i64 p.1, .int .i64 p.2] 23) (.cells #[.int .i64 q.1, .int .i64 q.2] 23)
  exact ⟨hrow.below hb2, k1, k2, hb.trans (hb2.mono hb.size)⟩

set_option maxRecDepth 100000 in
set_option maxHeartbeats 4000000 in
theorem ref_crossed (t : Ht) (W H e : Nat) (level : Int) (w : World) (g : Grd t W H) (he : e < 3 * W * H) (hR : RdI w t.a t.v) :
    Calls Try.prog 44 #[aggH t, .int .i64 level, .int .i64 e] w (RetV w (.bool (crsB (abv t level) W H e))) := by
  obtain ⟨a1, a2, a3, a4, a5, a6, a7, a8, a9, a10, a11⟩ := g.all
  have he1 : e ≤ 20000 := by
    have : 3 * W * H = 3 * (W * H) := Nat.mul_assoc 3 W H
    omega
  have hb0 := bw1 w (.cells (celH t) 26)
  have hrow0 := RowH.new w t
  have hs0 : (w.alloc (.cells (celH t) 26)).heap.size = w.heap.size + 1 := by simp
  have cE := Lib.hid (ref_ends t W H e (w.alloc (.cells (celH t) 26)) g.w g.h (by omega) a2 he1)
  have HC := Lib.hid (show crsB (abv t level) W H e = (okE W H e && (decide (level ≤ t.v[e / 3]!) != decide (level ≤ t.v[e / 3 + offE W e]!))) by unfold crsB abv; rw [okE_isE (by omega) he])
  have hee := edge_ends (W := W) (H := H) (e := e) (by omega)
  rw [← okE_isE (by omega) he] at hee
  have hoB : okE W H e = true → (eB W e).1 < W ∧ (eB W e).2 < H := by unfold okE; rw [Bool.and_eq_true, decide_eq_true_eq, decide_eq_true_eq]; exact id
  have hoA : (eA W e).1 < W ∧ (eA W e).2 ≤ (eB W e).2 := ⟨Nat.mod_lt _ (by omega), by unfold eA eB; dsimp only; omega⟩
  have h1 := @eA_at W e
  have h2 := @eB_at W e
  have cA := Lib.hid fun (ho : okE W H e = true) (W' : World) (hb : Below w.heap.size w W') => ref_height t W (eA W e).1 (eA W e).2 (e / 3) W' g.w a2 (by omega) (by have := (hoB ho).2; omega) h1 (by rw [a5]; exact (hee ho).1) (hR.below hb)
  have cB := Lib.hid fun (ho : okE W H e = true) (W' : World) (hb : Below w.heap.size w W') => ref_height t W (eB W e).1 (eB W e).2 (e / 3 + offE W e) W' g.w a2 (by have := (hoB ho).1; omega) (by have := (hoB ho).2; omega) h2 (by rw [a5]; exact (hee ho).2) (hR.below hb)
  clear hee hoB hoA h1 h2 a3 a4 a5 a6 a7 a8 a9 a10 a11 hR he he1
  generalize crsB (abv t level) W H e = res at *
  generalize t.v[e / 3]! = z1 at *
  generalize t.v[e / 3 + offE W e]! = z2 at *
  generalize eA W e = p at *
  generalize eB W e = q at *
  generalize okE W H e = ok at *
  obtain ⟨p1, p2⟩ := p
  obtain ⟨q1, q2⟩ := q
  clear g a1 a2
  obtain ⟨x, y, tw, th, st, A, c, v⟩ := t
  unfold aggH celH aggN at *
  dsimp only at *
  go_enter Try.func44, Try.ntmps44
  go_upto_region 1 with fail
  generalize (w.alloc (.cells #[.int .i64 x, .int .i64 y, .int .i64 tw, .int .i64 th, .int .i64 st, .slice A v.length c] 26)) = w0 at *
  obtain ⟨d0, d1, d2, d3, d4, d5⟩ := hrow0.cells
  dsimp only at d0 d1 d2 d3 d4 d5
  go_wp2_with fail
  refine cE.out.mono ?_
  rintro e1 w1 ⟨rfl, hb1⟩
  have hM := HP2.new ((p1 : Int), (p2 : Int)) ((q1 : Int), (q2 : Int)) (hrow0.below hb1) (hb0.trans (hb1.mono (by omega)))
  dsimp only at hM
  clear d0 d1 d2 d3 d4 d5 hb0 hrow0 cE hb1
  go_upto_region 2 with fail
  generalize w1.heap.size = k1 at *
  generalize ((w1.alloc (.cells #[.int .i64 p1, .int .i64 p2] 23)).alloc (.cells #[.int .i64 q1, .int .i64 q2] 23)) = w2 at *
  cases ok
  · obtain rfl : res = false := by rw [HC.out]; rfl
    have HB := Lib.hid hM.bl
    clear HC cA cB hM
    go_quiet (fail)
    go_wp2
    go_ret
    exact ⟨rfl, below_drewN HB.out _⟩
  · have HR := Lib.hid (HC.out.trans (Bool.true_and _))
    have cA2 := Lib.hid (cA.out rfl)
    have cB2 := Lib.hid (cB.out rfl)
    clear HC cA cB
    have hS0 := (show HP2 w k1 (k1 + 1) ⟨x, y, tw, th, st, A, c, v⟩ ((p1 : Int), (p2 : Int)) ((q1 : Int), (q2 : Int)) w2.drew from ⟨hM.row, hM.a, hM.b, hM.bl.drew⟩)
    clear hM
    refine wp_region_held_drew (S := (fun W' : World => HP2 w k1 (k1 + 1) ⟨x, y, tw, th, st, A, c, v⟩ ((p1 : Int), (p2 : Int)) ((q1 : Int), (q2 : Int)) W')) (by kernel_rfl) hS0 (fun hHeld => ?_)
    clear hHeld
    generalize w2.drew = wzra at *
    refine wpAnyH_take (i := 0) (oi := ⟨some 17, _, _, _, _, _⟩) (v := ?vra1) rfl (by kernel_rfl) (by kernel_rfl) (by kernel_rfl) (fun _ _ _ h => h) (Or.inl ⟨by kernel_rfl, ?hyra1⟩) (by assumption) ?restra1
    case hyra1 => (intro W hSw; (try dsimp only at hSw); go_simp; try with_reducible rfl)
    case' restra1 => try simp only [Act.put, List.setIfInBounds_toArray, List.set_cons_zero, List.set_cons_succ]
    refine wpAnyH_take (i := 1) (oi := ⟨some 18, _, _, _, _, _⟩) (v := ?vra2) rfl (by kernel_rfl) (by kernel_rfl) (by kernel_rfl) (fun _ _ _ h => h) (Or.inl ⟨by kernel_rfl, ?hyra2⟩) (by assumption) ?restra2
    case hyra2 => (intro W hSw; (try dsimp only at hSw); go_simp; try with_reducible rfl)
    case' restra2 => try simp only [Act.put, List.setIfInBounds_toArray, List.set_cons_zero, List.set_cons_succ]
    refine wpAnyH_take (i := 2) (oi := ⟨some 19, _, _, _, _, _⟩) (v := ?vra3) rfl (by kernel_rfl) (by kernel_rfl) (by kernel_rfl) (fun _ _ _ h => h) (Or.inl ⟨by kernel_rfl, ?hyra3⟩) (by assumption) ?restra3
    case hyra3 => (intro W hSw; obtain ⟨d0, d1, d2, d3, d4, d5⟩ := hSw.row.cells; obtain ⟨a1, a2, _, _, _⟩ := hSw.a.cel; obtain ⟨b1, b2, _, _, _⟩ := hSw.b.cel; dsimp only at d0 d1 d2 d3 d4 d5 a1 a2 b1 b2; clear hSw; (try dsimp only at hSw); go_simp; try with_reducible rfl)
    case' restra3 => try simp only [Act.put, List.setIfInBounds_toArray, List.set_cons_zero, List.set_cons_succ]
    refine wpAnyH_take (i := 3) (oi := ⟨some 20, _, _, _, _, _⟩) (v := ?vra4) rfl (by kernel_rfl) (by kernel_rfl) (by kernel_rfl) (fun _ _ _ h => h) (Or.inl ⟨by kernel_rfl, ?hyra4⟩) (by assumption) ?restra4
    case hyra4 => (intro W hSw; obtain ⟨d0, d1, d2, d3, d4, d5⟩ := hSw.row.cells; obtain ⟨a1, a2, _, _, _⟩ := hSw.a.cel; obtain ⟨b1, b2, _, _, _⟩ := hSw.b.cel; dsimp only at d0 d1 d2 d3 d4 d5 a1 a2 b1 b2; clear hSw; (try dsimp only at hSw); go_simp; try with_reducible rfl)
    case' restra4 => try simp only [Act.put, List.setIfInBounds_toArray, List.set_cons_zero, List.set_cons_succ]
    refine wpAnyH_take (i := 5) (oi := ⟨some 22, _, _, _, _, _⟩) (v := ?vra5) rfl (by kernel_rfl) (by kernel_rfl) (by kernel_rfl) (fun _ _ _ h => h) (Or.inl ⟨by kernel_rfl, ?hyra5⟩) (by assumption) ?restra5
    case hyra5 => (intro W hSw; (try dsimp only at hSw); go_simp; try with_reducible rfl)
    case' restra5 => try simp only [Act.put, List.setIfInBounds_toArray, List.set_cons_zero, List.set_cons_succ]
    refine wpAnyH_take (i := 7) (oi := ⟨some 24, _, _, _, _, _⟩) (v := ?vra6) rfl (by kernel_rfl) (by kernel_rfl) (by kernel_rfl) (fun _ _ _ h => h) (Or.inl ⟨by kernel_rfl, ?hyra6⟩) (by assumption) ?restra6
    case hyra6 => (intro W hSw; obtain ⟨d0, d1, d2, d3, d4, d5⟩ := hSw.row.cells; obtain ⟨a1, a2, _, _, _⟩ := hSw.a.cel; obtain ⟨b1, b2, _, _, _⟩ := hSw.b.cel; dsimp only at d0 d1 d2 d3 d4 d5 a1 a2 b1 b2; clear hSw; (try dsimp only at hSw); go_simp; try with_reducible rfl)
    case' restra6 => try simp only [Act.put, List.setIfInBounds_toArray, List.set_cons_zero, List.set_cons_succ]
    refine wpAnyH_take (i := 8) (oi := ⟨some 25, _, _, _, _, _⟩) (v := ?vra7) rfl (by kernel_rfl) (by kernel_rfl) (by kernel_rfl) (fun _ _ _ h => h) (Or.inl ⟨by kernel_rfl, ?hyra7⟩) (by assumption) ?restra7
    case hyra7 => (intro W hSw; obtain ⟨d0, d1, d2, d3, d4, d5⟩ := hSw.row.cells; obtain ⟨a1, a2, _, _, _⟩ := hSw.a.cel; obtain ⟨b1, b2, _, _, _⟩ := hSw.b.cel; dsimp only at d0 d1 d2 d3 d4 d5 a1 a2 b1 b2; clear hSw; (try dsimp only at hSw); go_simp; try with_reducible rfl)
    case' restra7 => try simp only [Act.put, List.setIfInBounds_toArray, List.set_cons_zero, List.set_cons_succ]
    refine wpAnyH_take (i := 10) (oi := ⟨some 27, _, _, _, _, _⟩) (v := ?vra8) rfl (by kernel_rfl) (by kernel_rfl) (by kernel_rfl) (fun _ _ _ h => h) (Or.inl ⟨by kernel_rfl, ?hyra8⟩) (by assumption) ?restra8
    case hyra8 => (intro W hSw; (try dsimp only at hSw); go_simp; try with_reducible rfl)
    case' restra8 => try simp only [Act.put, List.setIfInBounds_toArray, List.set_cons_zero, List.set_cons_succ]
    refine wpAnyH_ready (rs := [4]) (by kernel_rfl) (by simp) ?_
    refine AllReadyH.cons (o := ⟨some 21, _, _, _, _, _⟩) rfl (fun K hK => ?_) AllReadyH.nil
    go_simp
    go_at_call 46
    refine (cA2.out _ hS0.bl).mono ?_
    rintro e Wra1 ⟨rfl, hb⟩
    have hSWra1 := hS0.below hb
    clear hb hS0
    go_wp2_with fail
    refine hK.out _ _ hSWra1 (fun hHeld => ?_)
    clear hK hHeld K
    try simp only [Act.put, List.setIfInBounds_toArray, List.set_cons_zero, List.set_cons_succ]
    refine wpAnyH_take (i := 6) (oi := ⟨some 23, _, _, _, _, _⟩) (v := ?vra9) rfl (by kernel_rfl) (by kernel_rfl) (by kernel_rfl) (fun _ _ _ h => h) (Or.inl ⟨by kernel_rfl, ?hyra9⟩) (by assumption) ?restra9
    case hyra9 => (intro W hSw; (try dsimp only at hSw); go_simp; try with_reducible rfl)
    case' restra9 => try simp only [Act.put, List.setIfInBounds_toArray, List.set_cons_zero, List.set_cons_succ]
    refine wpAnyH_ready (rs := [9]) (by kernel_rfl) (by simp) ?_
    refine AllReadyH.cons (o := ⟨some 26, _, _, _, _, _⟩) rfl (fun K hK => ?_) AllReadyH.nil
    go_simp
    go_at_call 46
    refine (cB2.out _ hSWra1.bl).mono ?_
    rintro e Wra2 ⟨rfl, hb⟩
    have hSWra2 := hSWra1.below hb
    clear hb hSWra1
    go_wp2_with fail
    refine hK.out _ _ hSWra2 (fun hHeld => ?_)
    clear hK hHeld K
    try simp only [Act.put, List.setIfInBounds_toArray, List.set_cons_zero, List.set_cons_succ]
    refine wpAnyH_take (i := 11) (oi := ⟨some 28, _, _, _, _, _⟩) (v := ?vra10) rfl (by kernel_rfl) (by kernel_rfl) (by kernel_rfl) (fun _ _ _ h => h) (Or.inl ⟨by kernel_rfl, ?hyra10⟩) (by assumption) ?restra10
    case hyra10 => (intro W hSw; (try dsimp only at hSw); go_simp; try with_reducible rfl)
    case' restra10 => try simp only [Act.put, List.setIfInBounds_toArray, List.set_cons_zero, List.set_cons_succ]
    refine wpAnyH_take (i := 12) (oi := ⟨some 29, _, _, _, _, _⟩) (v := ?vra11) rfl (by kernel_rfl) (by kernel_rfl) (by kernel_rfl) (fun _ _ _ h => h) (Or.inl ⟨by kernel_rfl, ?hyra11⟩) (by assumption) ?restra11
    case hyra11 => (intro W hSw; (try dsimp only at hSw); go_simp; try with_reducible rfl)
    case' restra11 => try simp only [Act.put, List.setIfInBounds_toArray, List.set_cons_zero, List.set_cons_succ]
    refine wpAnyH_take (i := 13) (oi := ⟨some 30, _, _, _, _, _⟩) (v := ?vra12) rfl (by kernel_rfl) (by kernel_rfl) (by kernel_rfl) (fun _ _ _ h => h) (Or.inl ⟨by kernel_rfl, ?hyra12⟩) (by assumption) ?restra12
    case hyra12 => (intro W hSw; (try dsimp only at hSw); go_simp; try with_reducible rfl)
    case' restra12 => try simp only [Act.put, List.setIfInBounds_toArray, List.set_cons_zero, List.set_cons_succ]
    refine wpAnyH_take (i := 14) (oi := ⟨some 6, _, _, _, _, _⟩) (v := ?vra13) rfl (by kernel_rfl) (by kernel_rfl) (by kernel_rfl) (fun _ _ _ h => h) (Or.inl ⟨by kernel_rfl, ?hyra13⟩) (by assumption) ?restra13
    case hyra13 => (intro W hSw; (try dsimp only at hSw); go_simp; try with_reducible rfl)
    case' restra13 => try simp only [Act.put, List.setIfInBounds_toArray, List.set_cons_zero, List.set_cons_succ]
    refine wpAnyH_done (by kernel_rfl) ?_ _
    have HFB := Lib.hid hSWra2.bl
    clear hSWra2 cA2 cB2
    go_wp2
    go_ret
    exact ⟨by rw [HR.out]; rfl, HFB.out⟩

theorem filter_range_succ (p : Nat → Bool) (n : Nat) : (List.range (n + 1)).filter p = (List.range n).filter p ++ (if p n = true then [n] else []) := by
  rw [List.range_succ, List.filter_append]
  congr 1
  by_cases h : p n = true
  · rw [if_pos h, List.filter_cons_of_pos h]; rfl
  · rw [if_neg h, List.filter_cons_of_neg h]; rfl
set_option maxRecDepth 100000 in
set_option maxHeartbeats 4000000 in
theorem ref_edges (t : Ht) (W H : Nat) (level : Int) (w : World) (g : Grd t W H) (hR : RdI w t.a t.v) :
    Calls Try.prog 21 #[aggH t, .int .i64 level] w (RetI w (ci (crsL (abv t level) W H))) := by
  obtain ⟨a1, a2, a3, a4, a5, a6, a7, a8, a9, a10, a11⟩ := g.all
  have hN : ∃ N, 3 * W * H = N := ⟨_, rfl⟩
  obtain ⟨N, hN⟩ := hN
  have hN3 : (3 : Int) * (W : Int) * (H : Int) = (N : Int) := by rw [← hN]; simp
  have hNb : N ≤ 12288 := by
    have : 3 * W * H = 3 * (W * H) := Nat.mul_assoc 3 W H
    omega
  have hb0 := bw1 w (.cells (celH t) 26)
  have hrow0 := RowH.new w t
  have hs0 : (w.alloc (.cells (celH t) 26)).heap.size = w.heap.size + 1 := by simp
  have HRow := Lib.hid fun (W' : World) (hb : Below (w.alloc (.cells (celH t) 26)).heap.size (w.alloc (.cells (celH t) 26)) W') => hrow0.below hb
  have cX := Lib.hid fun (e : Nat) (he : e < N) (W' : World) (hb : Below w.heap.size w W') => ref_crossed t W H e level W' g (by omega) (hR.below hb)
  have HL := Lib.hid (show crsL (abv t level) W H = (List.range N).filter (crsB (abv t level) W H) by unfold crsL; rw [hN])
  have HS := Lib.hid (filter_range_succ (crsB (abv t level) W H))
  have HLen := Lib.hid (fun n : Nat => (show ((List.range n).filter (crsB (abv t level) W H)).length ≤ n from Nat.le_trans (List.length_filter_le _ _) (by simp)))
  have hw1 : IntKind.i64.wrap ((3 : Int) * (W : Int)) = (3 : Int) * (W : Int) := IntWalk.i64_in _ (by omega)
  have hw2 : IntKind.i64.wrap (N : Int) = (N : Int) := IntWalk.i64_in _ (by omega)
  generalize crsL (abv t level) W H = res at *
  generalize crsB (abv t level) W H = cr at *
  have e1 := g.w
  have e2 := g.h
  clear g a1 a2 a3 a4 a5 a6 a7 a8 a9 a10 a11 hR hN
  obtain ⟨x, y, tw, th, st, A, c, v⟩ := t
  unfold aggH celH at *
  dsimp only at *
  subst e1 e2
  go_enter Try.func21, Try.ntmps21
  go_upto_region 1 with fail
  generalize (w.alloc (.cells #[.int .i64 x, .int .i64 y, .int .i64 W, .int .i64 H, .int .i64 st, .slice A v.length c] 26)) = w0 at *
  have HB0 := Lib.hid hb0
  clear hb0 hrow0
  go_wp2_with fail
  go_loopw [5, 6] (fun s5 s6 wr => ∃ n : Nat, n ≤ N ∧ s6 = .int .i64 n ∧ OwnI 3 wr w0.heap.size s5 (ci ((List.range n).filter cr)) ∧ Below w0.heap.size w0 wr) (fun _ i _ => N - (intOf i).toNat)
  case atStart => exact ⟨0, by omega, rfl, Own.nil _ _, Below.refl _ _⟩
  case round =>
    obtain ⟨n, hn, rfl, ho, hb⟩ := hrel
    obtain ⟨d0, d1, d2, d3, d4, d5⟩ := (HRow.out _ hb).cells
    dsimp only at d0 d1 d2 d3 d4 d5
    have HO := Lib.hid ho
    have HB := Lib.hid hb
    clear ho hb
    generalize wr = wa at *
    by_cases hlt : n < N
    rotate_left
    · obtain rfl : N = n := by omega
      have hge : ¬ ((N : Int) < (N : Int)) := by omega
      have hsz0 := (show w.heap.size ≤ w0.heap.size by omega)
      go_wp2
      go_ret
      exact (RetRc.of_own encI_len (by rw [HL.out]; exact HO.out) (HB0.out.trans (HB.out.mono hsz0))).rd
    · have hli : (n : Int) < (N : Int) := by omega
      have hlen := HLen.out n
      go_wp2_with fail
      refine (cX.out n hlt _ (HB0.out.trans (HB.out.mono (by omega)))).mono ?_
      rintro e1 w1 ⟨rfl, hb1⟩
      have HB1 := Lib.hid (HB.out.trans (hb1.mono HB.out.size))
      have HO1 := Lib.hid (HO.out.below hb1)
      have HF := Lib.hid (HS.out n)
      have hsz := HB1.out.size
      clear d0 d1 d2 d3 d4 d5 hb1
      generalize cr n = q at *
      cases q
      · have HF2 := Lib.hid (HF.out.trans (List.append_nil _))
        clear HF
        go_wp2
        go_roundw
        case rel => exact ⟨n + 1, by omega, by go_num, by rw [HF2.out]; exact HO1.out, HB1.out⟩
        case measure => simp [intOf]; omega
      · go_wp2_with (refine Try.appI HO1.out (n : Int) rfl _ _ rfl rfl rfl (by rw [ci_len]; omega) hsz ?_; intro v9 w9 ho9 hb9)
        go_roundw
        case rel => exact ⟨n + 1, by omega, by go_num, by rw [HF.out, ci_app]; exact ho9, HB1.out.trans hb9⟩
        case measure => simp [intOf]; omega

set_option maxHeartbeats 4000000 in
theorem ref_Crossed (t : Ht) (level : Int) (w : World) (hmax : t.v.length ≤ 1000000000000) (hR : RdI w t.a t.v) :
    Calls Try.prog 13 #[aggH t, .int .i64 level] w (RetV w (.tuple #[.int .i64 (crossN t level), .int .i64 (chkH t)])) := by
  have hb0 : Below w.heap.size w (w.alloc (.cells (celH t) 26)) := bw1 _ _
  have hs0 : (w.alloc (.cells (celH t) 26)).heap.size = w.heap.size + 1 := by simp
  have hrow0 := RowH.new w t
  have cC := Lib.hid (ref_checkH t (w.alloc (.cells (celH t) 26)) hmax (hR.below hb0))
  have HL := Lib.hid (show crossN t level = if chkH t = 0 then ((crsL (abv t level) t.w.toNat t.h.toNat).length : Int) else 0 from rfl)
  have cL := Lib.hid fun (hc : chkH t = 0) (W' : World) (hb : Below w.heap.size w W') => ref_edges t _ _ level W' (Grd.of hc) (hR.below hb)
  clear hR
  generalize crossN t level = L at *
  generalize crsL (abv t level) t.w.toNat t.h.toNat = K at *
  generalize chkH t = r at *
  obtain ⟨x, y, tw, th, st, A, cc, v⟩ := t
  unfold aggH celH at *
  dsimp only at *
  obtain ⟨r0, r1, r2, r3, r4, r5⟩ := hrow0.cells
  dsimp only at r0 r1 r2 r3 r4 r5
  go_enter Try.func13, Try.ntmps13
  go_upto_region 1 with fail
  generalize (w.alloc (.cells #[.int .i64 x, .int .i64 y, .int .i64 tw, .int .i64 th, .int .i64 st, .slice A v.length cc] 26)) = wA at *
  go_wp2_with fail
  refine cC.out.mono ?_
  rintro e w1 ⟨rfl, hb1⟩
  have HB1 := Lib.hid (hb0.trans (hb1.mono (by omega)))
  have hrow1 := hrow0.below hb1
  clear r0 r1 r2 r3 r4 r5
  obtain ⟨r0, r1, r2, r3, r4, r5⟩ := hrow1.cells
  dsimp only at r0 r1 r2 r3 r4 r5
  by_cases h0 : r = 0
  · have cL0 := Lib.hid (cL.out h0)
    clear cL
    subst h0
    rw [if_pos rfl] at HL
    go_wp2_with fail
    refine (cL0.out w1 HB1.out).mono ?_
    rintro e w2 ⟨A2, c2, rfl, hv2, hb2⟩
    have HB2 := Lib.hid (HB1.out.trans (hb2.mono HB1.out.size))
    clear hv2 hb2 hrow0 hrow1 hb0 hb1 cC cL0 r0 r1 r2 r3 r4 r5
    go_wp2
    go_ret2
    exact ⟨by rw [HL.out, ci_len]; rfl, HB2.out⟩
  · rw [if_neg h0] at HL
    clear hrow0 hrow1 hb0 hb1 cC cL r0 r1 r2 r3 r4 r5
    go_wp2
    go_ret2
    exact ⟨by rw [HL.out]; rfl, HB1.out⟩
end Go.Proofs
/- The reference's number and corners. -/
set_option linter.unusedVariables false
set_option linter.unusedSimpArgs false
namespace Go.Proofs
open Go.RowKit Go.Proofs.Mp Go.Lib

def swN (a b : Nat × Nat) : Bool := decide (b.1 < a.1) || decide (b.2 < a.2)
def addN (p q : Nat × Nat) : Nat := if p.2 < q.2 then (if p.1 < q.1 then 2 else 1) else 0
/-- the number of the edge between two neighbouring points -/
def numR (W : Nat) (a b : Nat × Nat) : Nat := if swN a b = true then 3 * (b.2 * W + b.1) + addN b a else 3 * (a.2 * W + a.1) + addN a b
theorem HP2.swap {w W : World} {t : Ht} {p q : Pt} (h : HP2 w (w.heap.size + 1) (w.heap.size + 1 + 1) t p q W) : HP2 w (w.heap.size + 1) (w.heap.size + 1 + 1) t q p (setP (setP W (w.heap.size + 1) q) (w.heap.size + 1 + 1) p) := by
  refine ⟨?_, (h.a.set q).other (by omega) p, (h.b.other (by omega) q).set p, below_setP' (below_setP' h.bl (by omega) _) (by omega) _⟩
  have := h.row
  unfold RowH setP at *
  rw [heap_setCell_other _ _ _ _ (by simp <;> omega), heap_setCell_other _ _ _ _ (by simp <;> omega), heap_setCell_other _ _ _ _ (by simp <;> omega), heap_setCell_other _ _ _ _ (by simp <;> omega)]
  exact this
set_option maxRecDepth 100000 in
set_option maxHeartbeats 4000000 in
theorem ref_number (t : Ht) (W : Nat) (a b : Nat × Nat) (w : World) (hW : t.w = (W : Int)) (hW1 : W ≤ 64) (ha : a.1 ≤ 64 ∧ a.2 ≤ 64) (hb : b.1 ≤ 64 ∧ b.2 ≤ 64) :
    Calls Try.prog 76 #[aggH t, aggN a, aggN b] w (RetV w (.int .i64 (numR W a b))) := by
  have HN := Lib.hid (show numR W a b = if swN a b = true then 3 * (b.2 * W + b.1) + addN b a else 3 * (a.2 * W + a.1) + addN a b from rfl)
  have HS := Lib.hid (show swN a b = (decide (b.1 < a.1) || decide (b.2 < a.2)) from rfl)
  generalize numR W a b = res at *
  generalize swN a b = s at *
  obtain ⟨a1, a2⟩ := a
  obtain ⟨b1, b2⟩ := b
  obtain ⟨x, y, tw, th, st, A, c, v⟩ := t
  unfold aggH celH aggN at *
  dsimp only at *
  subst hW
  obtain ⟨ha1, ha2⟩ := ha
  obtain ⟨hb1, hb2⟩ := hb
  obtain ⟨k1, k2, k3, hB, hz⟩ := blk3 w (.cells #[.int .i64 x, .int .i64 y, .int .i64 W, .int .i64 th, .int .i64 st, .slice A v.length c] 26) (.cells #[.int .i64 a1, .int .i64 a2] 23) (.cells #[.int .i64 b1, .int .i64 b2] 23)
  have hM : HP2 w (w.heap.size + 1) (w.heap.size + 1 + 1) ⟨x, y, W, th, st, A, c, v⟩ ((a1 : Int), (a2 : Int)) ((b1 : Int), (b2 : Int)) _ := ⟨k1, k2, k3, hB⟩
  clear k1 k2 k3 hB hz
  go_enter Try.func76, Try.ntmps76
  go_upto_region 1 with fail
  generalize (((w.alloc (.cells #[.int .i64 x, .int .i64 y, .int .i64 W, .int .i64 th, .int .i64 st, .slice A v.length c] 26)).alloc (.cells #[.int .i64 a1, .int .i64 a2] 23)).alloc (.cells #[.int .i64 b1, .int .i64 b2] 23)) = w0 at *
  obtain ⟨p1, hp1⟩ : ∃ p1 : Nat, (if s = true then b1 else a1) = p1 := ⟨_, rfl⟩
  obtain ⟨p2, hp2⟩ : ∃ p2 : Nat, (if s = true then b2 else a2) = p2 := ⟨_, rfl⟩
  obtain ⟨q1, hq1⟩ : ∃ p1 : Nat, (if s = true then a1 else b1) = p1 := ⟨_, rfl⟩
  obtain ⟨q2, hq2⟩ : ∃ p2 : Nat, (if s = true then a2 else b2) = p2 := ⟨_, rfl⟩
  have HR := Lib.hid (show res = 3 * (p2 * W + p1) + addN (p1, p2) (q1, q2) by rw [HN.out, ← hp1, ← hp2, ← hq1, ← hq2]; cases s <;> rfl)
  have H1 := Lib.hid hp1
  have H2 := Lib.hid hp2
  have H3 := Lib.hid hq1
  have H4 := Lib.hid hq2
  have hp1l : p1 ≤ 64 := by rw [← hp1]; split <;> omega
  have hp2l : p2 ≤ 64 := by rw [← hp2]; split <;> omega
  clear hp1 hp2 hq1 hq2 HN
  go_cut [19] (fun s19 wc => s19 = .bool s ∧ wc = w0)
  case first =>
    clear HR hp1l hp2l H1 H2 H3 H4
    obtain ⟨r1, r2, f1, f2, l1⟩ := hM.a.cel
    obtain ⟨r3, r4, f3, f4, l2⟩ := hM.b.cel
    dsimp only at r1 r2 r3 r4
    clear hM
    by_cases g1 : b1 < a1
    · have g1' : (b1 : Int) < (a1 : Int) := by omega
      obtain rfl : s = true := by rw [HS.out]; simp [g1]
      go_wp2
      go_meet
      exact ⟨rfl, rfl⟩
    · have g1' : ¬ (b1 : Int) < (a1 : Int) := by omega
      by_cases g2 : b2 < a2
      · have g2' : (b2 : Int) < (a2 : Int) := by omega
        obtain rfl : s = true := by rw [HS.out]; simp [g2]
        go_wp2
        go_meet
        exact ⟨rfl, rfl⟩
      · have g2' : ¬ (b2 : Int) < (a2 : Int) := by omega
        obtain rfl : s = false := by rw [HS.out]; simp; omega
        go_wp2
        go_meet
        exact ⟨rfl, rfl⟩
  obtain ⟨rfl, rfl⟩ := hcut
  generalize wc = w0 at *
  go_upto_if 19 with fail
  go_cut [] (fun wc => HP2 w (w.heap.size + 1) (w.heap.size + 1 + 1) ⟨x, y, W, th, st, A, c, v⟩ ((p1 : Int), (p2 : Int)) ((q1 : Int), (q2 : Int)) wc)
  case first =>
    clear HR hp1l hp2l
    have HM2 := Lib.hid hM.swap
    obtain ⟨r1, r2, f1, f2, l1⟩ := hM.a.cel
    obtain ⟨r3, r4, f3, f4, l2⟩ := hM.b.cel
    dsimp only at r1 r2 r3 r4
    have HM := Lib.hid hM
    clear hM
    cases s
    · go_wp2
      go_meet
      rw [← H1.out, ← H2.out, ← H3.out, ← H4.out]
      exact HM.out
    · go_wp2
      go_meet
      rw [← H1.out, ← H2.out, ← H3.out, ← H4.out]
      exact HM2.out
  case rest =>
    clear hM
    obtain ⟨r1, r2, f1, f2, l1⟩ := hcut.a.cel
    obtain ⟨r3, r4, f3, f4, l2⟩ := hcut.b.cel
    obtain ⟨d0, d1, d2, d3, d4, d5⟩ := hcut.row.cells
    dsimp only at r1 r2 r3 r4 d0 d1 d2 d3 d4 d5
    have HB := Lib.hid hcut.bl
    clear hcut
    have hm : p2 * W ≤ 64 * 64 := Nat.mul_le_mul hp2l hW1
    have hmi : ((p2 * W : Nat) : Int) = (p2 : Int) * (W : Int) := Int.natCast_mul p2 W
    have hw1 : IntKind.i64.wrap ((p2 : Int) * (W : Int)) = (p2 : Int) * (W : Int) := IntWalk.i64_in _ (by omega)
    have hb1 : (p2 : Int) * (W : Int) ≤ 4096 := by omega
    have hb0 : 0 ≤ (p2 : Int) * (W : Int) := by omega
    have HR2 := Lib.hid (show (res : Int) = 3 * ((p2 : Int) * (W : Int) + (p1 : Int)) + (addN (p1, p2) (q1, q2) : Nat) by rw [HR.out, ← hmi]; omega)
    have HA := Lib.hid (show addN (p1, p2) (q1, q2) = if p2 < q2 then (if p1 < q1 then 2 else 1) else 0 from rfl)
    generalize addN (p1, p2) (q1, q2) = ad at *
    clear HR hmi hm
    by_cases g2 : p2 < q2
    · have g2' : (p2 : Int) < (q2 : Int) := by omega
      by_cases g1 : p1 < q1
      · have g1' : (p1 : Int) < (q1 : Int) := by omega
        obtain rfl : ad = 2 := by rw [HA.out, if_pos g2, if_pos g1]
        go_wp2
        go_ret
        exact ⟨by rw [HR2.out]; rfl, HB.out⟩
      · have g1' : ¬ (p1 : Int) < (q1 : Int) := by omega
        obtain rfl : ad = 1 := by rw [HA.out, if_pos g2, if_neg g1]
        go_wp2
        go_ret
        exact ⟨by rw [HR2.out]; rfl, HB.out⟩
    · have g2' : ¬ (p2 : Int) < (q2 : Int) := by omega
      obtain rfl : ad = 0 := by rw [HA.out, if_neg g2]
      by_cases g1 : p1 < q1
      · have g1' : (p1 : Int) < (q1 : Int) := by omega
        go_wp2
        go_ret
        exact ⟨by rw [HR2.out]; simp, HB.out⟩
      · have g1' : ¬ (p1 : Int) < (q1 : Int) := by omega
        go_wp2
        go_ret
        exact ⟨by rw [HR2.out]; simp, HB.out⟩

set_option maxRecDepth 100000 in
set_option maxHeartbeats 4000000 in
theorem ref_corners (c r : Nat) (w : World) (hc : c ≤ 64) (hr : r ≤ 64) :
    Calls Try.prog 56 #[.int .i64 c, .int .i64 r, .int .i64 0] w (RetV w (.agg #[.int .i64 c, .int .i64 r, .int .i64 ((c : Int) + 1), .int .i64 r, .int .i64 ((c : Int) + 1), .int .i64 ((r : Int) + 1)])) ∧
    Calls Try.prog 56 #[.int .i64 c, .int .i64 r, .int .i64 1] w (RetV w (.agg #[.int .i64 c, .int .i64 r, .int .i64 ((c : Int) + 1), .int .i64 ((r : Int) + 1), .int .i64 c, .int .i64 ((r : Int) + 1)])) := by
  refine ⟨?_, ?_⟩
  · go_enter Try.func56, Try.ntmps56
    go_wp2
    refine bodyPost_ret (by simp [results, Try.results56, go_sem]; rfl) rfl ?_
    exact ⟨rfl, bw1 _ _⟩
  · go_enter Try.func56, Try.ntmps56
    go_wp2
    refine bodyPost_ret (by simp [results, Try.results56, go_sem]; rfl) rfl ?_
    exact ⟨rfl, bw1 _ _⟩
end Go.Proofs
/- The reference's step. -/
set_option linter.unusedVariables false
set_option linter.unusedSimpArgs false
namespace Go.Proofs
open Go.RowKit Go.Proofs.Mp Go.Lib

def sideS (s : Int × Int) (X Y : Bool) (n : Nat) : Int × Int := (if (X && !Y) = true then (n : Int) else s.1, if (!X && Y) = true then (n : Int) else s.2)
/-- the step's ends behind k sides -/
def st3 (X : Nat → Bool) (N : Nat → Nat) : Nat → Int × Int
  | 0 => (-1, -1)
  | k + 1 => sideS (st3 X N k) (X k) (X ((k + 1) % 3)) (N k)
theorem st3_bound {X : Nat → Bool} {N : Nat → Nat} (hN : ∀ k, N k ≤ 100000) : ∀ k, -1 ≤ (st3 X N k).1 ∧ (st3 X N k).1 ≤ 100000 ∧ -1 ≤ (st3 X N k).2 ∧ (st3 X N k).2 ≤ 100000
  | 0 => by unfold st3; dsimp only; omega
  | k + 1 => by
    have := st3_bound (X := X) hN k
    have := hN k
    unfold st3 sideS
    dsimp only
    refine ⟨?_, ?_, ?_, ?_⟩ <;> split <;> omega
theorem numR_le {W : Nat} {a b : Nat × Nat} (hW1 : W ≤ 64) (ha : a.1 ≤ 64 ∧ a.2 ≤ 64) (hb : b.1 ≤ 64 ∧ b.2 ≤ 64) : numR W a b ≤ 100000 := by
  have h1 : a.2 * W ≤ 64 * 64 := Nat.mul_le_mul ha.2 hW1
  have h2 : b.2 * W ≤ 64 * 64 := Nat.mul_le_mul hb.2 hW1
  have h3 : ∀ p q, addN p q ≤ 2 := fun p q => by unfold addN; split <;> (try split) <;> omega
  unfold numR
  have := h3 a b
  have := h3 b a
  split <;> omega
set_option maxRecDepth 100000 in
set_option maxHeartbeats 8000000 in
theorem ref_step (t : Ht) (W : Nat) (level : Int) (T : Nat → Nat × Nat) (I : Nat → Nat) (w : World) (hW : t.w = (W : Int)) (hW1 : W ≤ 64) (hT : ∀ k, (T k).1 ≤ 64 ∧ (T k).2 ≤ 64) (hI : ∀ k, (T k).2 * W + (T k).1 = I k ∧ I k < t.v.length) (hR : RdI w t.a t.v) :
    Calls Try.prog 55 #[aggH t, .int .i64 level, .agg #[.int .i64 (T 0).1, .int .i64 (T 0).2, .int .i64 (T 1).1, .int .i64 (T 1).2, .int .i64 (T 2).1, .int .i64 (T 2).2]] w
      (RetV w (.tuple #[.int .i64 (st3 (fun k => abv t level (I k)) (fun k => numR W (T k) (T ((k + 1) % 3))) 3).1, .int .i64 (st3 (fun k => abv t level (I k)) (fun k => numR W (T k) (T ((k + 1) % 3))) 3).2, .bool (decide (0 ≤ (st3 (fun k => abv t level (I k)) (fun k => numR W (T k) (T ((k + 1) % 3))) 3).1))])) := by
  have HA := Lib.hid fun k => (show abv t level (I k) = decide (level ≤ t.v[I k]!) from rfl)
  have cH := Lib.hid fun (k : Nat) (W' : World) (hb : Below w.heap.size w W') => ref_height t W (T k).1 (T k).2 (I k) W' hW hW1 (hT k).1 (hT k).2 (hI k).1 (hI k).2 (hR.below hb)
  have cN := Lib.hid fun (j k : Nat) (W' : World) => ref_number t W (T j) (T k) W' hW hW1 (hT j) (hT k)
  have HS1 := Lib.hid fun k => (show st3 (fun k => abv t level (I k)) (fun k => numR W (T k) (T ((k + 1) % 3))) (k + 1) = sideS (st3 (fun k => abv t level (I k)) (fun k => numR W (T k) (T ((k + 1) % 3))) k) (abv t level (I k)) (abv t level (I ((k + 1) % 3))) (numR W (T k) (T ((k + 1) % 3))) from rfl)
  have HS0 := Lib.hid (show st3 (fun k => abv t level (I k)) (fun k => numR W (T k) (T ((k + 1) % 3))) 0 = (-1, -1) from rfl)
  have HSB := Lib.hid (st3_bound (X := fun k => abv t level (I k)) (N := fun k => numR W (T k) (T ((k + 1) % 3))) (fun k => numR_le hW1 (hT k) (hT _)))
  generalize st3 (fun k => abv t level (I k)) (fun k => numR W (T k) (T ((k + 1) % 3))) = S at *
  obtain ⟨k1, k2, hB, hz⟩ := blk2 w (.cells (celH t) 26) (.cells #[.int .i64 (T 0).1, .int .i64 (T 0).2, .int .i64 (T 1).1, .int .i64 (T 1).2, .int .i64 (T 2).1, .int .i64 (T 2).2] 79)
  have HRow := Lib.hid fun (W' : World) (hb : Below ((w.alloc (.cells (celH t) 26)).alloc (.cells #[.int .i64 (T 0).1, .int .i64 (T 0).2, .int .i64 (T 1).1, .int .i64 (T 1).2, .int .i64 (T 2).1, .int .i64 (T 2).2] 79)).heap.size ((w.alloc (.cells (celH t) 26)).alloc (.cells #[.int .i64 (T 0).1, .int .i64 (T 0).2, .int .i64 (T 1).1, .int .i64 (T 1).2, .int .i64 (T 2).1, .int .i64 (T 2).2] 79)) W') => RowH.below (show RowH _ w.heap.size t from k1) hb
  have HTri := Lib.hid fun (W' : World) (hb : Below ((w.alloc (.cells (celH t) 26)).alloc (.cells #[.int .i64 (T 0).1, .int .i64 (T 0).2, .int .i64 (T 1).1, .int .i64 (T 1).2, .int .i64 (T 2).1, .int .i64 (T 2).2] 79)).heap.size ((w.alloc (.cells (celH t) 26)).alloc (.cells #[.int .i64 (T 0).1, .int .i64 (T 0).2, .int .i64 (T 1).1, .int .i64 (T 1).2, .int .i64 (T 2).1, .int .i64 (T 2).2] 79)) W') (k : Nat) (hk : k < 3) => (show W'.cell? ⟨w.heap.size + 1, k * 2, none⟩ = some (.int .i64 ((T k).1 : Int)) ∧ W'.cell? ⟨w.heap.size + 1, k * 2 + 1, none⟩ = some (.int .i64 ((T k).2 : Int)) from by
    have h0 := (hb.block (w.heap.size + 1) (by omega)).trans k2
    rcases (by omega : k = 0 ∨ k = 1 ∨ k = 2) with rfl | rfl | rfl <;> exact ⟨by rw [cell_of_row _ _ _ _ _ _ h0]; rfl, by rw [cell_of_row _ _ _ _ _ _ h0]; rfl⟩)
  clear k1 k2 hT hI hR
  obtain ⟨x, y, tw, th, st, A, c, v⟩ := t
  unfold aggH celH aggN at *
  dsimp only at *
  subst hW
  go_enter Try.func55, Try.ntmps55
  go_upto_block 0 with fail
  generalize ((w.alloc (.cells #[.int .i64 x, .int .i64 y, .int .i64 W, .int .i64 th, .int .i64 st, .slice A v.length c] 26)).alloc (.cells #[.int .i64 (T 0).1, .int .i64 (T 0).2, .int .i64 (T 1).1, .int .i64 (T 1).2, .int .i64 (T 2).1, .int .i64 (T 2).2] 79)) = w0 at *
  have HB0 := Lib.hid hB
  clear hB
  go_wp2_with fail
  go_loopw [9, 10, 11] (fun s9 s10 i wr => ∃ k : Nat, k ≤ 3 ∧ i = .int .i64 k ∧ s9 = .int .i64 (S k).1 ∧ s10 = .int .i64 (S k).2 ∧ Below w0.heap.size w0 wr) (fun _ _ i _ => 3 - (intOf i).toNat)
  case atStart => exact ⟨0, by omega, rfl, by rw [HS0.out], by rw [HS0.out], Below.refl _ _⟩
  case round =>
    obtain ⟨k, hk, rfl, rfl, rfl, k0⟩ := hrel
    generalize wr = wa at *
    by_cases hlt : k < 3
    rotate_left
    · obtain rfl : k = 3 := by omega
      have HK := Lib.hid (HB0.out.trans (k0.mono HB0.out.size))
      have hsb := HSB.out 3
      obtain ⟨⟨s1, s2⟩, hs⟩ : ∃ s, S 3 = s := ⟨_, rfl⟩
      have HS3 := Lib.hid hs
      rw [hs] at hsb ⊢
      dsimp only at hsb ⊢
      rw [show ((3 : Nat) : Int) = 3 from rfl]
      clear k0 hs
      go_wp2
      refine bodyPost_ret (by simp [results, Try.results55, go_sem]; rfl) rfl ?_
      exact ⟨by rw [HS3.out], HK.out⟩
    · have HT1 := Lib.hid fun W' (hb : Below wa.heap.size wa W') => HTri.out W' (k0.trans (hb.mono k0.size)) k hlt
      have hlt2 : (k + 1) % 3 < 3 := Nat.mod_lt _ (by omega)
      have HT2 := Lib.hid fun W' (hb : Below wa.heap.size wa W') => HTri.out W' (k0.trans (hb.mono k0.size)) ((k + 1) % 3) hlt2
      have HRo := Lib.hid fun W' (hb : Below wa.heap.size wa W') => HRow.out W' (k0.trans (hb.mono k0.size))
      have cH1 := Lib.hid fun W' (hb : Below wa.heap.size wa W') => cH.out k W' (HB0.out.trans ((k0.trans (hb.mono k0.size)).mono HB0.out.size))
      have cH2 := Lib.hid fun W' (hb : Below wa.heap.size wa W') => cH.out ((k + 1) % 3) W' (HB0.out.trans ((k0.trans (hb.mono k0.size)).mono HB0.out.size))
      have cN1 := Lib.hid (cN.out k ((k + 1) % 3))
      have HX := Lib.hid (HA.out k)
      have HY := Lib.hid (HA.out ((k + 1) % 3))
      have HSK := Lib.hid (HS1.out k)
      have hm3 : ((k : Int) + 1).tmod 3 = (((k + 1) % 3 : Nat) : Int) := by rw [show (k : Int) + 1 = ((k + 1 : Nat) : Int) by omega]; rfl
      have hwk : IntKind.i64.wrap ((k : Int) + 1) = (k : Int) + 1 := IntWalk.i64_in _ (by omega)
      have HK0 := Lib.hid k0
      have hli : (k : Int) < 3 := by omega
      clear k0 cH cN HTri HRow HS0 HA hlt
      generalize abv _ level (I k) = X at *
      generalize abv _ level (I ((k + 1) % 3)) = Y at *
      generalize v[I k]! = z1 at *
      generalize v[I ((k + 1) % 3)]! = z2 at *
      generalize T ((k + 1) % 3) = q at *
      generalize T k = p at *
      generalize (k + 1) % 3 = k2 at *
      have hk2i : (k2 : Int) < 3 := by omega
      go_upto_region 5 with fail
      have hS0 : (fun W' : World => Below wa.heap.size wa W') wa.drew := (Below.refl _ _).drew
      refine wp_region_held_drew (S := (fun W' : World => Below wa.heap.size wa W')) (by kernel_rfl) hS0 (fun hHeld => ?_)
      clear hHeld
      generalize wa.drew = wzra at *
      refine wpAnyH_take (i := 0) (oi := ⟨some 20, _, _, _, _, _⟩) (v := ?vra1) rfl (by kernel_rfl) (by kernel_rfl) (by kernel_rfl) (fun _ _ _ h => h) (Or.inl ⟨by kernel_rfl, ?hyra1⟩) (by assumption) ?restra1
      case hyra1 => (intro W hSw; (try dsimp only at hSw); go_simp; try with_reducible rfl)
      case' restra1 => try simp only [Act.put, List.setIfInBounds_toArray, List.set_cons_zero, List.set_cons_succ]
      refine wpAnyH_take (i := 1) (oi := ⟨some 21, _, _, _, _, _⟩) (v := ?vra2) rfl (by kernel_rfl) (by kernel_rfl) (by kernel_rfl) (fun _ _ _ h => h) (Or.inl ⟨by kernel_rfl, ?hyra2⟩) (by assumption) ?restra2
      case hyra2 => (intro W hSw; (try dsimp only at hSw); go_simp; try with_reducible rfl)
      case' restra2 => try simp only [Act.put, List.setIfInBounds_toArray, List.set_cons_zero, List.set_cons_succ]
      refine wpAnyH_take (i := 2) (oi := ⟨some 22, _, _, _, _, _⟩) (v := ?vra3) rfl (by kernel_rfl) (by kernel_rfl) (by kernel_rfl) (fun _ _ _ h => h) (Or.inl ⟨by kernel_rfl, ?hyra3⟩) (by assumption) ?restra3
      case hyra3 => (intro W hSw; obtain ⟨c1, c2⟩ := HT1.out W hSw; (try dsimp only at hSw); go_simp; try with_reducible rfl)
      case' restra3 => try simp only [Act.put, List.setIfInBounds_toArray, List.set_cons_zero, List.set_cons_succ]
      refine wpAnyH_take (i := 3) (oi := ⟨some 23, _, _, _, _, _⟩) (v := ?vra4) rfl (by kernel_rfl) (by kernel_rfl) (by kernel_rfl) (fun _ _ _ h => h) (Or.inl ⟨by kernel_rfl, ?hyra4⟩) (by assumption) ?restra4
      case hyra4 => (intro W hSw; (try dsimp only at hSw); go_simp; try with_reducible rfl)
      case' restra4 => try simp only [Act.put, List.setIfInBounds_toArray, List.set_cons_zero, List.set_cons_succ]
      refine wpAnyH_take (i := 4) (oi := ⟨some 24, _, _, _, _, _⟩) (v := ?vra5) rfl (by kernel_rfl) (by kernel_rfl) (by kernel_rfl) (fun _ _ _ h => h) (Or.inl ⟨by kernel_rfl, ?hyra5⟩) (by assumption) ?restra5
      case hyra5 => (intro W hSw; (try dsimp only at hSw); go_simp; try with_reducible rfl)
      case' restra5 => try simp only [Act.put, List.setIfInBounds_toArray, List.set_cons_zero, List.set_cons_succ]
      refine wpAnyH_take (i := 5) (oi := ⟨some 25, _, _, _, _, _⟩) (v := ?vra6) rfl (by kernel_rfl) (by kernel_rfl) (by kernel_rfl) (fun _ _ _ h => h) (Or.inl ⟨by kernel_rfl, ?hyra6⟩) (by assumption) ?restra6
      case hyra6 => (intro W hSw; (try dsimp only at hSw); go_simp; try with_reducible rfl)
      case' restra6 => try simp only [Act.put, List.setIfInBounds_toArray, List.set_cons_zero, List.set_cons_succ]
      refine wpAnyH_take (i := 6) (oi := ⟨some 26, _, _, _, _, _⟩) (v := ?vra7) rfl (by kernel_rfl) (by kernel_rfl) (by kernel_rfl) (fun _ _ _ h => h) (Or.inl ⟨by kernel_rfl, ?hyra7⟩) (by assumption) ?restra7
      case hyra7 => (intro W hSw; (try dsimp only at hSw); go_simp; try with_reducible rfl)
      case' restra7 => try simp only [Act.put, List.setIfInBounds_toArray, List.set_cons_zero, List.set_cons_succ]
      refine wpAnyH_take (i := 7) (oi := ⟨some 27, _, _, _, _, _⟩) (v := ?vra8) rfl (by kernel_rfl) (by kernel_rfl) (by kernel_rfl) (fun _ _ _ h => h) (Or.inl ⟨by kernel_rfl, ?hyra8⟩) (by assumption) ?restra8
      case hyra8 => (intro W hSw; obtain ⟨c1, c2⟩ := HT2.out W hSw; (try dsimp only at hSw); go_simp; try with_reducible rfl)
      case' restra8 => try simp only [Act.put, List.setIfInBounds_toArray, List.set_cons_zero, List.set_cons_succ]
      refine' wpAnyH_share (fun H f l (act : Value → Value → Act) => ∀ (pv1 : Value) (pv2 : Value) (WX : World), BoxV wa.heap.size WX pv1 (0, 0) → BoxV wa.heap.size WX pv2 (0, 0) → NeV WX pv1 pv2 → (fun W' : World => Below wa.heap.size wa W') WX → H f l (act pv1 pv2) WX) (fun tailra9 => ?mtailra9) ?ttailra9
      case mtailra9 =>
        refine wpAnyH_ready (rs := [8, 9]) (by kernel_rfl) (by simp) ?_
        refine AllReadyH.cons (o := ⟨some 12, _, _, _, _, _⟩) rfl (fun K hK => ?_) ?_
        · skip
          go_simp
          have hx1 := BoxV.new wzra hS0.size
          have hSWra1 := hS0.alloc hS0.size (.cells #[.int .i64 0, .int .i64 0] 23)
          refine hK.out _ _ hSWra1 (fun hHeld => ?_)
          clear hK hHeld K
          try clear hS0
          try simp only [Act.put, List.setIfInBounds_toArray, List.set_cons_zero, List.set_cons_succ]
          generalize (wzra.alloc (.cells #[.int .i64 0, .int .i64 0] 23)) = Wra1 at hx1 hSWra1 ⊢
          generalize Value.pointer (some ⟨wzra.heap.size, 0, none⟩) = pv1 at hx1 ⊢
          refine wpAnyH_ready (rs := [9]) (by kernel_rfl) (by simp) ?_
          refine AllReadyH.cons (o := ⟨some 13, _, _, _, _, _⟩) rfl (fun K hK => ?_) AllReadyH.nil
          go_simp
          have hx2 := BoxV.new Wra1 hSWra1.size
          have hne := NeV.new2 hx1 (.cells #[.int .i64 0, .int .i64 0] 23)
          replace hx1 := hx1.alloc (.cells #[.int .i64 0, .int .i64 0] 23)
          have hSWra2 := hSWra1.alloc hSWra1.size (.cells #[.int .i64 0, .int .i64 0] 23)
          refine hK.out _ _ hSWra2 (fun hHeld => ?_)
          clear hK hHeld K
          try clear hSWra1
          try simp only [Act.put, List.setIfInBounds_toArray, List.set_cons_zero, List.set_cons_succ]
          generalize (Wra1.alloc (.cells #[.int .i64 0, .int .i64 0] 23)) = Wra2 at hx2 hne hx1 hSWra2 ⊢
          generalize Value.pointer (some ⟨Wra1.heap.size, 0, none⟩) = pv2 at hx2 hne ⊢
          exact wpAnyH_cast rfl rfl (tailra9 pv1 pv2 Wra2 hx1 hx2 hne hSWra2)
        refine AllReadyH.cons (o := ⟨some 13, _, _, _, _, _⟩) rfl (fun K hK => ?_) AllReadyH.nil
        go_simp
        have hx2 := BoxV.new wzra hS0.size
        have hSWra3 := hS0.alloc hS0.size (.cells #[.int .i64 0, .int .i64 0] 23)
        refine hK.out _ _ hSWra3 (fun hHeld => ?_)
        clear hK hHeld K
        try clear hS0
        try simp only [Act.put, List.setIfInBounds_toArray, List.set_cons_zero, List.set_cons_succ]
        generalize (wzra.alloc (.cells #[.int .i64 0, .int .i64 0] 23)) = Wra3 at hx2 hSWra3 ⊢
        generalize Value.pointer (some ⟨wzra.heap.size, 0, none⟩) = pv2 at hx2 ⊢
        refine wpAnyH_ready (rs := [8]) (by kernel_rfl) (by simp) ?_
        refine AllReadyH.cons (o := ⟨some 12, _, _, _, _, _⟩) rfl (fun K hK => ?_) AllReadyH.nil
        go_simp
        have hx1 := BoxV.new Wra3 hSWra3.size
        have hne := NeV.new1 hx2 (.cells #[.int .i64 0, .int .i64 0] 23)
        replace hx2 := hx2.alloc (.cells #[.int .i64 0, .int .i64 0] 23)
        have hSWra4 := hSWra3.alloc hSWra3.size (.cells #[.int .i64 0, .int .i64 0] 23)
        refine hK.out _ _ hSWra4 (fun hHeld => ?_)
        clear hK hHeld K
        try clear hSWra3
        try simp only [Act.put, List.setIfInBounds_toArray, List.set_cons_zero, List.set_cons_succ]
        generalize (Wra3.alloc (.cells #[.int .i64 0, .int .i64 0] 23)) = Wra4 at hx1 hne hx2 hSWra4 ⊢
        generalize Value.pointer (some ⟨Wra3.heap.size, 0, none⟩) = pv1 at hx1 hne ⊢
        exact wpAnyH_cast (by kernel_rfl) (by kernel_rfl) (tailra9 pv1 pv2 Wra4 hx1 hx2 hne hSWra4)
      case ttailra9 =>
        try clear hS0
        intro pv1 pv2 Wra5 hx1 hx2 hne hSWra5
        refine wpAnyH_ready (rs := [10]) (by kernel_rfl) (by simp) ?_
        refine AllReadyH.cons (o := ⟨none, _, _, _, _, _⟩) rfl (fun K hK => ?_) AllReadyH.nil
        refine BoxV.store hx1 ((p.1 : Int), (p.2 : Int)) rfl _ _ rfl rfl rfl (fun Wra6 hbx hbo hbW => ?_)
        have hSWra6 := hSWra5.trans hbW
        have hox := hbo _ _ (Ne.symm hne) hx2
        clear hx1 hx2 hbW hbo hSWra5
        have hx1 := hbx
        have hx2 := hox
        clear hbx hox
        refine hK.out _ _ hSWra6 (fun hHeld => ?_)
        clear hK hHeld K
        try simp only [Act.put, List.setIfInBounds_toArray, List.set_cons_zero, List.set_cons_succ]
        refine wpAnyH_ready (rs := [11]) (by kernel_rfl) (by simp) ?_
        refine AllReadyH.cons (o := ⟨none, _, _, _, _, _⟩) rfl (fun K hK => ?_) AllReadyH.nil
        refine BoxV.store hx2 ((q.1 : Int), (q.2 : Int)) rfl _ _ rfl rfl rfl (fun Wra7 hbx hbo hbW => ?_)
        have hSWra7 := hSWra6.trans hbW
        have hox := hbo _ _ hne hx1
        clear hx2 hx1 hbW hbo hSWra6
        have hx2 := hbx
        have hx1 := hox
        clear hbx hox
        refine hK.out _ _ hSWra7 (fun hHeld => ?_)
        clear hK hHeld K
        try simp only [Act.put, List.setIfInBounds_toArray, List.set_cons_zero, List.set_cons_succ]
        refine wpAnyH_done (by kernel_rfl) ?_ _
        obtain ⟨n1', rfl, hn1, bx1⟩ := hx1
        obtain ⟨n2', rfl, hn2, bx2⟩ := hx2
        clear hne
        have HX1 := Lib.hid fun (W' : World) (hW : Below Wra7.heap.size Wra7 W') => bx1.below hW
        have HX2 := Lib.hid fun (W' : World) (hW : Below Wra7.heap.size Wra7 W') => bx2.below hW
        have HBk := Lib.hid hSWra7
        have HRo2 := Lib.hid fun (W' : World) (hW : Below Wra7.heap.size Wra7 W') => HRo.out W' (HBk.out.trans (hW.mono HBk.out.size))
        have cH3 := Lib.hid fun (W' : World) (hW : Below Wra7.heap.size Wra7 W') => cH1.out W' (HBk.out.trans (hW.mono HBk.out.size))
        have cH4 := Lib.hid fun (W' : World) (hW : Below Wra7.heap.size Wra7 W') => cH2.out W' (HBk.out.trans (hW.mono HBk.out.size))
        clear bx1 bx2 hSWra7 HRo cH1 cH2 HT1 HT2
        generalize Wra7 = w1 at *
        have hS1 : (fun W' : World => Below w1.heap.size w1 W') w1.drew := (Below.refl _ _).drew
        go_upto_region 6 with fail
        refine wp_region_held_drew (S := (fun W' : World => Below w1.heap.size w1 W')) (by kernel_rfl) hS1 (fun hHeld => ?_)
        clear hHeld
        generalize w1.drew = wzrb at *
        refine wpAnyH_take (i := 0) (oi := ⟨some 28, _, _, _, _, _⟩) (v := ?vrb1) rfl (by kernel_rfl) (by kernel_rfl) (by kernel_rfl) (fun _ _ _ h => h) (Or.inl ⟨by kernel_rfl, ?hyrb1⟩) (by assumption) ?restrb1
        case hyrb1 => (intro W hSw; obtain ⟨d0, d1, d2, d3, d4, d5⟩ := (HRo2.out W hSw).cells; dsimp only at d0 d1 d2 d3 d4 d5; (try dsimp only at hSw); go_simp; try with_reducible rfl)
        case' restrb1 => try simp only [Act.put, List.setIfInBounds_toArray, List.set_cons_zero, List.set_cons_succ]
        refine wpAnyH_take (i := 1) (oi := ⟨some 29, _, _, _, _, _⟩) (v := ?vrb2) rfl (by kernel_rfl) (by kernel_rfl) (by kernel_rfl) (fun _ _ _ h => h) (Or.inl ⟨by kernel_rfl, ?hyrb2⟩) (by assumption) ?restrb2
        case hyrb2 => (intro W hSw; obtain ⟨j1, j2, j3, j4, j5⟩ := (HX1.out W hSw).cel; dsimp only at j1 j2; (try dsimp only at hSw); go_simp; try with_reducible rfl)
        case' restrb2 => try simp only [Act.put, List.setIfInBounds_toArray, List.set_cons_zero, List.set_cons_succ]
        refine wpAnyH_take (i := 3) (oi := ⟨some 31, _, _, _, _, _⟩) (v := ?vrb3) rfl (by kernel_rfl) (by kernel_rfl) (by kernel_rfl) (fun _ _ _ h => h) (Or.inl ⟨by kernel_rfl, ?hyrb3⟩) (by assumption) ?restrb3
        case hyrb3 => (intro W hSw; (try dsimp only at hSw); go_simp; try with_reducible rfl)
        case' restrb3 => try simp only [Act.put, List.setIfInBounds_toArray, List.set_cons_zero, List.set_cons_succ]
        refine wpAnyH_take (i := 5) (oi := ⟨some 33, _, _, _, _, _⟩) (v := ?vrb4) rfl (by kernel_rfl) (by kernel_rfl) (by kernel_rfl) (fun _ _ _ h => h) (Or.inl ⟨by kernel_rfl, ?hyrb4⟩) (by assumption) ?restrb4
        case hyrb4 => (intro W hSw; obtain ⟨d0, d1, d2, d3, d4, d5⟩ := (HRo2.out W hSw).cells; dsimp only at d0 d1 d2 d3 d4 d5; (try dsimp only at hSw); go_simp; try with_reducible rfl)
        case' restrb4 => try simp only [Act.put, List.setIfInBounds_toArray, List.set_cons_zero, List.set_cons_succ]
        refine wpAnyH_take (i := 6) (oi := ⟨some 34, _, _, _, _, _⟩) (v := ?vrb5) rfl (by kernel_rfl) (by kernel_rfl) (by kernel_rfl) (fun _ _ _ h => h) (Or.inl ⟨by kernel_rfl, ?hyrb5⟩) (by assumption) ?restrb5
        case hyrb5 => (intro W hSw; obtain ⟨j1, j2, j3, j4, j5⟩ := (HX2.out W hSw).cel; dsimp only at j1 j2; (try dsimp only at hSw); go_simp; try with_reducible rfl)
        case' restrb5 => try simp only [Act.put, List.setIfInBounds_toArray, List.set_cons_zero, List.set_cons_succ]
        refine wpAnyH_take (i := 8) (oi := ⟨some 36, _, _, _, _, _⟩) (v := ?vrb6) rfl (by kernel_rfl) (by kernel_rfl) (by kernel_rfl) (fun _ _ _ h => h) (Or.inl ⟨by kernel_rfl, ?hyrb6⟩) (by assumption) ?restrb6
        case hyrb6 => (intro W hSw; (try dsimp only at hSw); go_simp; try with_reducible rfl)
        case' restrb6 => try simp only [Act.put, List.setIfInBounds_toArray, List.set_cons_zero, List.set_cons_succ]
        refine wpAnyH_ready (rs := [2]) (by kernel_rfl) (by simp) ?_
        refine AllReadyH.cons (o := ⟨some 30, _, _, _, _, _⟩) rfl (fun K hK => ?_) AllReadyH.nil
        go_simp
        go_at_call 46
        refine (cH3.out _ hS1).mono ?_
        rintro e Wrb1 ⟨rfl, hbWrb1⟩
        have hSWrb1 := hS1.trans (hbWrb1.mono hS1.size)
        try clear hS1
        clear hbWrb1
        go_wp2_with fail
        refine hK.out _ _ hSWrb1 (fun hHeld => ?_)
        clear hK hHeld K
        try simp only [Act.put, List.setIfInBounds_toArray, List.set_cons_zero, List.set_cons_succ]
        refine wpAnyH_take (i := 4) (oi := ⟨some 32, _, _, _, _, _⟩) (v := ?vrb7) rfl (by kernel_rfl) (by kernel_rfl) (by kernel_rfl) (fun _ _ _ h => h) (Or.inl ⟨by kernel_rfl, ?hyrb7⟩) (by assumption) ?restrb7
        case hyrb7 => (intro W hSw; (try dsimp only at hSw); go_simp; try with_reducible rfl)
        case' restrb7 => try simp only [Act.put, List.setIfInBounds_toArray, List.set_cons_zero, List.set_cons_succ]
        refine wpAnyH_ready (rs := [7]) (by kernel_rfl) (by simp) ?_
        refine AllReadyH.cons (o := ⟨some 35, _, _, _, _, _⟩) rfl (fun K hK => ?_) AllReadyH.nil
        go_simp
        go_at_call 46
        refine (cH4.out _ hSWrb1).mono ?_
        rintro e Wrb2 ⟨rfl, hbWrb2⟩
        have hSWrb2 := hSWrb1.trans (hbWrb2.mono hSWrb1.size)
        try clear hSWrb1
        clear hbWrb2
        go_wp2_with fail
        refine hK.out _ _ hSWrb2 (fun hHeld => ?_)
        clear hK hHeld K
        try simp only [Act.put, List.setIfInBounds_toArray, List.set_cons_zero, List.set_cons_succ]
        refine wpAnyH_take (i := 9) (oi := ⟨some 37, _, _, _, _, _⟩) (v := ?vrb8) rfl (by kernel_rfl) (by kernel_rfl) (by kernel_rfl) (fun _ _ _ h => h) (Or.inl ⟨by kernel_rfl, ?hyrb8⟩) (by assumption) ?restrb8
        case hyrb8 => (intro W hSw; (try dsimp only at hSw); go_simp; try with_reducible rfl)
        case' restrb8 => try simp only [Act.put, List.setIfInBounds_toArray, List.set_cons_zero, List.set_cons_succ]
        refine wpAnyH_take (i := 10) (oi := ⟨some 14, _, _, _, _, _⟩) (v := ?vrb9) rfl (by kernel_rfl) (by kernel_rfl) (by kernel_rfl) (fun _ _ _ h => h) (Or.inl ⟨by kernel_rfl, ?hyrb9⟩) (by assumption) ?restrb9
        case hyrb9 => (intro W hSw; (try dsimp only at hSw); go_simp; try with_reducible rfl)
        case' restrb9 => try simp only [Act.put, List.setIfInBounds_toArray, List.set_cons_zero, List.set_cons_succ]
        refine wpAnyH_take (i := 11) (oi := ⟨some 15, _, _, _, _, _⟩) (v := ?vrb10) rfl (by kernel_rfl) (by kernel_rfl) (by kernel_rfl) (fun _ _ _ h => h) (Or.inl ⟨by kernel_rfl, ?hyrb10⟩) (by assumption) ?restrb10
        case hyrb10 => (intro W hSw; (try dsimp only at hSw); go_simp; try with_reducible rfl)
        case' restrb10 => try simp only [Act.put, List.setIfInBounds_toArray, List.set_cons_zero, List.set_cons_succ]
        refine wpAnyH_done (by kernel_rfl) ?_ _
        rw [← HX.out, ← HY.out]
        have HW := Lib.hid hSWrb2
        have hro := HRo2.out _ hSWrb2
        have hb1 := HX1.out _ hSWrb2
        have hb2 := HX2.out _ hSWrb2
        clear HX HY HRo2 HX1 HX2 cH3 cH4 hSWrb2
        generalize Wrb2 = w2 at *
        obtain ⟨d0, d1, d2, d3, d4, d5⟩ := hro.cells
        obtain ⟨j1, j2, j3, j4, j5⟩ := hb1.cel
        obtain ⟨j6, j7, j8, j9, j10⟩ := hb2.cel
        dsimp only at d0 d1 d2 d3 d4 d5 j1 j2 j6 j7
        clear hro hb1 hb2 j3 j4 j8 j9
        have HF := Lib.hid (HK0.out.trans ((HBk.out.trans (HW.out.mono HBk.out.size)).mono HK0.out.size))
        clear HW HBk HK0
        obtain ⟨⟨s1, s2⟩, hs⟩ : ∃ s, S k = s := ⟨_, rfl⟩
        rw [hs] at HSK ⊢
        clear hs
        generalize numR W p q = nn at *
        cases X
        · cases Y
          · skip
            have HFz := HF
            clear d0 d1 d2 d3 d4 d5 j1 j2 j6 j7
            go_wp2
            go_roundw
            case rel => exact ⟨k + 1, by omega, by go_num, by rw [HSK.out]; simp [sideS], by rw [HSK.out]; simp [sideS], HFz.out⟩
            case measure => simp [intOf]; omega
          · skip
            go_wp2_with fail
            refine (cN1.out _).mono ?_
            rintro e9 w9 ⟨rfl, hb9⟩
            have HFz := Lib.hid (HF.out.trans (hb9.mono HF.out.size))
            clear HF hb9 d0 d1 d2 d3 d4 d5 j1 j2 j6 j7
            go_wp2
            go_roundw
            case rel => exact ⟨k + 1, by omega, by go_num, by rw [HSK.out]; simp [sideS], by rw [HSK.out]; simp [sideS], HFz.out⟩
            case measure => simp [intOf]; omega
        · cases Y
          · skip
            go_wp2_with fail
            refine (cN1.out _).mono ?_
            rintro e9 w9 ⟨rfl, hb9⟩
            have HFz := Lib.hid (HF.out.trans (hb9.mono HF.out.size))
            clear HF hb9 d0 d1 d2 d3 d4 d5 j1 j2 j6 j7
            go_wp2
            go_roundw
            case rel => exact ⟨k + 1, by omega, by go_num, by rw [HSK.out]; simp [sideS], by rw [HSK.out]; simp [sideS], HFz.out⟩
            case measure => simp [intOf]; omega
          · skip
            have HFz := HF
            clear d0 d1 d2 d3 d4 d5 j1 j2 j6 j7
            go_wp2
            go_roundw
            case rel => exact ⟨k + 1, by omega, by go_num, by rw [HSK.out]; simp [sideS], by rw [HSK.out]; simp [sideS], HFz.out⟩
            case measure => simp [intOf]; omega
end Go.Proofs
