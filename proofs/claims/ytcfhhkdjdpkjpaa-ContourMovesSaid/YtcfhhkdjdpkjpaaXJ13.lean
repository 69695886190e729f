/- The reference's Near, Twice, Side and On. -/
import Derived.Test.YtcfhhkdjdpkjpaaXJ8
import Derived.Test.YtcfhhkdjdpkjpaaXJ11
set_option linter.unusedVariables false
set_option linter.unusedSimpArgs false
namespace Go.Proofs
open Go.RowKit Go.Proofs.Mp Go.Lib

theorem nearB_iff {p : Pt} : nearB p = true ↔ Nr p := by unfold nearB Nr; rw [decide_eq_true_eq]
/-- a product of two differences is not positive exactly between -/
theorem mul_btw (a b p : Int) : (p - a) * (p - b) ≤ 0 ↔ min a b ≤ p ∧ p ≤ max a b := by
  constructor
  · intro h
    rcases Int.lt_or_le p (min a b) with g | g
    · have := Int.mul_pos_of_neg_of_neg (show p - a < 0 by omega) (show p - b < 0 by omega)
      omega
    · rcases Int.lt_or_le (max a b) p with g2 | g2
      · have := Int.mul_pos (show 0 < p - a by omega) (show 0 < p - b by omega)
        omega
      · exact ⟨g, g2⟩
  · rintro ⟨h1, h2⟩
    rcases Int.le_total a b with g | g
    · exact Int.mul_nonpos_of_nonneg_of_nonpos (by omega) (by omega)
    · exact Int.mul_nonpos_of_nonpos_of_nonneg (by omega) (by omega)
theorem dot_sign {x y z : Int} (h : x * y = z * z) (hs : x + y ≤ 0) : x ≤ 0 ∧ y ≤ 0 := by
  have h0 : 0 ≤ z * z := by
    rcases Int.le_total 0 z with g | g
    · exact Int.mul_nonneg g g
    · exact Int.mul_nonneg_of_nonpos_of_nonpos g g
  constructor
  · rcases Int.lt_or_le 0 x with g | g
    · have := Int.mul_neg_of_pos_of_neg g (show y < 0 by omega)
      omega
    · exact g
  · rcases Int.lt_or_le 0 y with g | g
    · have := Int.mul_neg_of_neg_of_pos (show x < 0 by omega) g
      omega
    · exact g
def dt (a b c d : Pt) : Int := (b.1 - a.1) * (d.1 - c.1) + (b.2 - a.2) * (d.2 - c.2)
/-- the reference's test of a segment is the program's -/
theorem onB_ref (a b p : Pt) : onB a b p = (decide (tw a b p = 0) && decide (dt a p b p ≤ 0)) := by
  unfold onB
  rw [Bool.decide_and]
  by_cases ht : tw a b p = 0
  · rw [decide_eq_true ht, Bool.true_and, Bool.true_and]
    apply decide_eq_decide.2
    unfold inBx dt
    unfold tw at ht
    obtain ⟨a1, a2⟩ := a
    obtain ⟨b1, b2⟩ := b
    obtain ⟨p1, p2⟩ := p
    dsimp only at *
    rw [← and_assoc, ← mul_btw a1 b1 p1, ← mul_btw a2 b2 p2]
    have hX : ((p1 - a1) * (p1 - b1)) * ((p2 - a2) * (p2 - b2)) = ((p1 - a1) * (p2 - b2)) * ((p1 - a1) * (p2 - b2)) := by
      have : (p1 - a1) * (p2 - b2) = (p2 - a2) * (p1 - b1) := by grind
      grind
    constructor
    · rintro ⟨h1, h2⟩; omega
    · intro h; exact dot_sign hX h
  · rw [decide_eq_false ht, Bool.false_and, Bool.false_and]

theorem mul_nr {a b c d : Int} (h1 : -2097152 ≤ a ∧ a ≤ 2097152) (h2 : -2097152 ≤ b ∧ b ≤ 2097152) (h3 : -2097152 ≤ c ∧ c ≤ 2097152) (h4 : -2097152 ≤ d ∧ d ≤ 2097152) : -17592186044416 ≤ (b - a) * (d - c) ∧ (b - a) * (d - c) ≤ 17592186044416 := by
  obtain ⟨p1, p2⟩ := mul_bound (a := b - a) (b := d - c) (n := 4194304) (m := 4194304) (by omega) (by omega) (by omega) (by omega) (by omega)
  omega
theorem bw4 (w : World) (o1 o2 o3 o4 : Obj) : Below w.heap.size w ((((w.alloc o1).alloc o2).alloc o3).alloc o4) := (bw3 w o1 o2 o3).alloc (by simp; omega) _
set_option maxHeartbeats 2000000 in
theorem r8_cross (a b c d : Pt) (w : World) (ha : Nr a) (hb : Nr b) (hc : Nr c) (hd : Nr d) : Calls Try.prog 66 #[aggP a, aggP b, aggP c, aggP d] w (RetV w (.int .i64 ((b.1 - a.1) * (d.2 - c.2) - (b.2 - a.2) * (d.1 - c.1)))) := by
  obtain ⟨a1, a2⟩ := a
  obtain ⟨b1, b2⟩ := b
  obtain ⟨c1, c2⟩ := c
  obtain ⟨d1, d2⟩ := d
  unfold aggP
  unfold Nr at ha hb hc hd
  dsimp only at *
  obtain ⟨p1, p2⟩ := mul_nr (a := a1) (b := b1) (c := c2) (d := d2) (by omega) (by omega) (by omega) (by omega)
  obtain ⟨q1, q2⟩ := mul_nr (a := a2) (b := b2) (c := c1) (d := d1) (by omega) (by omega) (by omega) (by omega)
  go_enter Try.func66, Try.ntmps66
  go_wp2
  go_ret
  exact RetV.int (by simp) (bw4 _ _ _ _ _)
set_option maxHeartbeats 2000000 in
theorem r8_dot (a b c d : Pt) (w : World) (ha : Nr a) (hb : Nr b) (hc : Nr c) (hd : Nr d) : Calls Try.prog 67 #[aggP a, aggP b, aggP c, aggP d] w (RetV w (.int .i64 (dt a b c d))) := by
  obtain ⟨a1, a2⟩ := a
  obtain ⟨b1, b2⟩ := b
  obtain ⟨c1, c2⟩ := c
  obtain ⟨d1, d2⟩ := d
  unfold aggP dt
  unfold Nr at ha hb hc hd
  dsimp only at *
  obtain ⟨p1, p2⟩ := mul_nr (a := a1) (b := b1) (c := c1) (d := d1) (by omega) (by omega) (by omega) (by omega)
  obtain ⟨q1, q2⟩ := mul_nr (a := a2) (b := b2) (c := c2) (d := d2) (by omega) (by omega) (by omega) (by omega)
  go_enter Try.func67, Try.ntmps67
  go_wp2
  go_ret
  exact RetV.int (by simp) (bw4 _ _ _ _ _)

set_option maxHeartbeats 4000000 in
theorem r8_near (xs : List Pt) (A : Option Addr) (c : Nat) (w : World) (hR : RdR w A xs) (hl : xs.length ≤ 1000000000000) :
    Calls Try.prog 41 #[.slice A xs.length c] w (RetV w (.bool (xs.all nearB))) := by
  obtain ⟨d, hd⟩ : ∃ d, xs.all nearB = d := ⟨_, rfl⟩
  have HD := Lib.hid hd
  rw [hd]
  clear hd
  have HR := Lib.hid hR
  clear hR
  go_enter Try.func41, Try.ntmps41
  go_wp2_with fail
  go_loopw [3] (fun i wr => ∃ k q : Nat, k ≤ xs.length ∧ i = .int .i64 k ∧ w.drewN q = wr ∧ ∀ j, j < k → nearB xs[j]! = true) (fun i _ => xs.length - (intOf i).toNat)
  case atStart => exact ⟨0, 0, by omega, rfl, rfl, fun j hj => by omega⟩
  case round =>
    obtain ⟨k, q, hk, rfl, rfl, hall⟩ := hrel
    by_cases hlt : k < xs.length
    rotate_left
    · have hkn : xs.length = k := by omega
      obtain rfl : d = true := by
        rw [← HD.out, List.all_eq_true]
        intro p hp
        obtain ⟨j, hj, rfl⟩ := List.mem_iff_getElem.1 hp
        have := hall j (by omega)
        rwa [getElem!_pos xs j hj] at this
      subst hkn
      have hge : ¬ ((xs.length : Int) < (xs.length : Int)) := by omega
      clear hall
      go_wp2
      go_ret
      exact ⟨rfl, ⟨rfl, rfl, rfl, Nat.le_refl _, fun _ _ => rfl⟩⟩
    · have hli : (k : Int) < (xs.length : Int) := by omega
      obtain ⟨b, off, rfl, hbl, c1, c2⟩ := RdR.get HR.out (Below.refl _ _) (j := k) hlt
      have HA := Lib.hid hall
      have HM := Lib.hid (show xs[k]! ∈ xs by rw [getElem!_pos xs k hlt]; exact List.getElem_mem hlt)
      obtain ⟨⟨x, y⟩, hz⟩ : ∃ z, xs[k]! = z := ⟨_, rfl⟩
      have HZ := Lib.hid hz
      rw [hz] at c1 c2 HM
      dsimp only at c1 c2
      clear hz hall
      have HNo := Lib.hid (fun (h : nearB (x, y) = false) => (show d = false from by
        rw [← HD.out, List.all_eq_false]
        exact ⟨_, HM.out, by rw [h]; decide⟩))
      by_cases g1 : x < -2097152
      · have HF := Lib.hid (HNo.out (decide_eq_false (by dsimp only; omega)))
        go_wp2
        go_ret
        exact ⟨by rw [HF.out]; rfl, ⟨rfl, rfl, rfl, Nat.le_refl _, fun _ _ => rfl⟩⟩
      by_cases g2 : 2097152 < x
      · have HF := Lib.hid (HNo.out (decide_eq_false (by dsimp only; omega)))
        go_wp2
        go_ret
        exact ⟨by rw [HF.out]; rfl, ⟨rfl, rfl, rfl, Nat.le_refl _, fun _ _ => rfl⟩⟩
      by_cases g3 : y < -2097152
      · have HF := Lib.hid (HNo.out (decide_eq_false (by dsimp only; omega)))
        go_wp2
        go_ret
        exact ⟨by rw [HF.out]; rfl, ⟨rfl, rfl, rfl, Nat.le_refl _, fun _ _ => rfl⟩⟩
      by_cases g4 : 2097152 < y
      · have HF := Lib.hid (HNo.out (decide_eq_false (by dsimp only; omega)))
        go_wp2
        go_ret
        exact ⟨by rw [HF.out]; rfl, ⟨rfl, rfl, rfl, Nat.le_refl _, fun _ _ => rfl⟩⟩
      have HT := Lib.hid (show nearB (x, y) = true from decide_eq_true (by dsimp only; omega))
      go_wp2
      go_roundw
      case rel => exact ⟨k + 1, q, by omega, by go_num, rfl, fun j hj => by
        by_cases e : j = k
        · rw [e, HZ.out]; exact HT.out
        · exact HA.out j (by omega)⟩
      case measure => simp [intOf]; omega
theorem r8_near3 (a b c : Pt) (ha : Nr a) (hb : Nr b) (hc : Nr c) (W : World) (n : Nat) (hn : n = W.heap.size) (cap : Nat) :
    Calls Try.prog 41 #[.slice (some ⟨n, 0, none⟩) 3 cap] (W.alloc (.cells #[.int .i64 a.1, .int .i64 a.2, .int .i64 b.1, .int .i64 b.2, .int .i64 c.1, .int .i64 c.2] 23)) (RetV (W.alloc (.cells #[.int .i64 a.1, .int .i64 a.2, .int .i64 b.1, .int .i64 b.2, .int .i64 c.1, .int .i64 c.2] 23)) (.bool true)) := by
  have h := r8_near [a, b, c] (some ⟨n, 0, none⟩) cap (W.alloc (.cells #[.int .i64 a.1, .int .i64 a.2, .int .i64 b.1, .int .i64 b.2, .int .i64 c.1, .int .i64 c.2] 23)) (lit_rdAt W _ 23 [a, b, c] rfl n hn) (by simp)
  rw [show [a, b, c].all nearB = true by simp [nearB_iff.2 ha, nearB_iff.2 hb, nearB_iff.2 hc]] at h
  exact h

set_option maxHeartbeats 2000000 in
theorem r8_Twice (a b c : Pt) (w : World) (ha : Nr a) (hb : Nr b) (hc : Nr c) : Calls Try.prog 68 #[aggP a, aggP b, aggP c] w (RetV w (.int .i64 (tw a b c))) := by
  have c0 := Lib.hid fun W => (show Calls Try.prog 66 #[aggP a, aggP b, aggP a, aggP c] W (RetV W (.int .i64 (tw a b c))) from r8_cross a b a c W ha hb ha hc)
  have cn := Lib.hid fun W n hn cap => r8_near3 a b c ha hb hc W n hn cap
  generalize tw a b c = t at *
  clear ha hb hc
  obtain ⟨a1, a2⟩ := a
  obtain ⟨b1, b2⟩ := b
  obtain ⟨c1, c2⟩ := c
  unfold aggP at *
  dsimp only at *
  go_enter Try.func68, Try.ntmps68
  go_wp2_with fail
  refine (cn.out _ _ (by simp) _).mono ?_
  rintro e w1 ⟨rfl, hb1⟩
  have hb2 := below_lit hb1
  clear hb1
  obtain ⟨k1, k2, k3, k4, k5, k6, h0⟩ := box3 hb2
  clear hb2
  go_wp2_with fail
  refine (c0.out _).mono ?_
  rintro e w2 ⟨rfl, hb1⟩
  have h1 := below_step h0 hb1
  go_wp2
  go_ret
  exact RetV.int rfl h1
set_option maxHeartbeats 1000000 in
theorem r8_Side (a b c : Pt) (w : World) (ha : Nr a) (hb : Nr b) (hc : Nr c) : Calls Try.prog 43 #[aggP a, aggP b, aggP c] w (RetV w (.int .i64 (sd a b c))) := by
  have c0 := Lib.hid fun W => r8_Twice a b c W ha hb hc
  have hs := sg_cases (tw a b c)
  have he : sd a b c = sg (tw a b c) := rfl
  rw [he]
  clear he
  generalize tw a b c = t at *
  clear ha hb hc
  obtain ⟨a1, a2⟩ := a
  obtain ⟨b1, b2⟩ := b
  obtain ⟨c1', c2⟩ := c
  unfold aggP at *
  dsimp only at *
  rcases hs with ⟨h1, h2⟩ | ⟨h1, h2⟩ | ⟨h1, h2⟩
  all_goals
    rw [h2]
    clear h2
    go_enter Try.func43, Try.ntmps43
    go_wp2_with fail
    refine (c0.out _).mono ?_
    rintro e w1 ⟨rfl, hb1⟩
    obtain ⟨-, -, -, -, -, -, h0⟩ := box3 hb1
    go_wp2
    go_ret
    exact RetV.int rfl h0
set_option maxHeartbeats 4000000 in
theorem r8_on (a b c : Pt) (w : World) (ha : Nr a) (hb : Nr b) (hc : Nr c) : Calls Try.prog 42 #[aggP a, aggP b, aggP c] w (RetV w (.bool (onB a b c))) := by
  have c0 := Lib.hid fun W => (show Calls Try.prog 66 #[aggP a, aggP b, aggP a, aggP c] W (RetV W (.int .i64 (tw a b c))) from r8_cross a b a c W ha hb ha hc)
  have cd := Lib.hid fun W => r8_dot a c b c W ha hc hb hc
  have cn := Lib.hid fun W n hn cap => r8_near3 a b c ha hb hc W n hn cap
  have HO := Lib.hid (onB_ref a b c)
  generalize onB a b c = r at *
  generalize tw a b c = t at *
  generalize dt a c b c = u at *
  clear ha hb hc
  obtain ⟨a1, a2⟩ := a
  obtain ⟨b1, b2⟩ := b
  obtain ⟨c1, c2⟩ := c
  unfold aggP at *
  dsimp only at *
  by_cases ht : t = 0
  rotate_left
  · obtain rfl : r = false := by rw [HO.out, decide_eq_false ht]; rfl
    have htb : (t == 0) = false := by rw [beq_eq_false_iff_ne]; exact ht
    clear HO cd
    go_enter Try.func42, Try.ntmps42
    go_wp2_with fail
    refine (cn.out _ _ (by simp) _).mono ?_
    rintro e w1 ⟨rfl, hb1⟩
    have hb2 := below_lit hb1
    clear hb1
    obtain ⟨k1, k2, k3, k4, k5, k6, h0⟩ := box3 hb2
    clear hb2
    go_wp2_with fail
    refine (c0.out _).mono ?_
    rintro e w2 ⟨rfl, hb1⟩
    have h1 := below_step h0 hb1
    go_wp2
    go_ret
    exact RetV.bool rfl h1
  · subst ht
    have HR := Lib.hid (show r = decide (u ≤ 0) by rw [HO.out]; simp)
    clear HO
    go_enter Try.func42, Try.ntmps42
    go_wp2_with fail
    refine (cn.out _ _ (by simp) _).mono ?_
    rintro e w1 ⟨rfl, hb1⟩
    have hb2 := below_lit hb1
    clear hb1
    obtain ⟨k1, k2, k3, k4, k5, k6, h0⟩ := box3 hb2
    go_wp2_with fail
    refine (c0.out _).mono ?_
    rintro e w2 ⟨rfl, hb1⟩
    have h1 := below_step h0 hb1
    clear k1 k2 k3 k4 k5 k6
    obtain ⟨k1, k2, k3, k4, k5, k6, _⟩ := box3 (hb2.trans (hb1.mono hb2.size))
    go_wp2_with fail
    refine (cd.out _).mono ?_
    rintro e w3 ⟨rfl, hb3⟩
    have h2 := below_step h1 hb3
    go_wp2
    go_ret
    exact RetV.bool HR.out.symm h2
end Go.Proofs
/- contour.Inside. -/
set_option linter.unusedVariables false
set_option linter.unusedSimpArgs false
namespace Go.Proofs
open Go.RowKit Go.Proofs.Mp Go.Lib

theorem insV_far {xs : List Pt} {p : Pt} (h : (nearB p && xs.all nearB) = false) : insV xs p = -1 := by unfold insV; rw [h]; rfl
theorem insV_near {xs : List Pt} {p : Pt} (h : nearB p = true) (h2 : xs.all nearB = true) : insV xs p = if p ∈ xs then 0 else if onTo xs p (xs.length - 1) = true then 0 else if oddTo xs p (xs.length - 1) = true ∧ xs[0]! = xs[xs.length - 1]! then 1 else -1 := by unfold insV; rw [h, h2]; rfl
theorem onTo_of {xs : List Pt} {p : Pt} {k n : Nat} (hk : k < n) (h : onB xs[k]! xs[k + 1]! p = true) : onTo xs p n = true := by
  unfold onTo
  rw [List.any_eq_true]
  exact ⟨k, List.mem_range.2 hk, h⟩
theorem crsP_eq (a b p : Pt) : crsP a b p = ((decide (a.2 ≤ p.2) && decide (p.2 < b.2) && decide (sd a b p = 1)) || (decide (b.2 ≤ p.2) && decide (p.2 < a.2) && decide (sd a b p = -1))) := rfl
def celL (lv : Int) (A : Option Addr) (n c : Nat) : Array Value := #[.int .i64 lv, .slice A n c]

set_option maxRecDepth 100000 in
set_option maxHeartbeats 16000000 in
theorem con_Inside (lv : Int) (xs : List Pt) (p : Pt) (A : Option Addr) (c : Nat) (w : World) (hR : Rd 2 encR w A xs) (hl : xs.length ≤ 1000000000000) :
    Calls Try.prog 19 #[.agg #[.int .i64 lv, .slice A xs.length c], aggP p] w (RetV w (.int .i64 (insV xs p))) := by
  have hmf : ∀ (fn : Fn) (first cap : Array Value) (w : World), (Instr.makeFunc fn first cap).run Try.prog w = .ok (.func fn first cap) w := fun _ _ _ _ => rfl
  obtain ⟨k1, k2, hB, hz⟩ := blk2 w (.cells #[.int .i64 lv, .slice A xs.length c] 41) (.cells #[.int .i64 p.1, .int .i64 p.2] 23)
  have HI := Lib.hid fun (W' : World) (hb : Below ((w.alloc (.cells #[.int .i64 lv, .slice A xs.length c] 41)).alloc (.cells #[.int .i64 p.1, .int .i64 p.2] 23)).heap.size ((w.alloc (.cells #[.int .i64 lv, .slice A xs.length c] 41)).alloc (.cells #[.int .i64 p.1, .int .i64 p.2] 23)) W') => (show W'.cell? ⟨w.heap.size, 1, none⟩ = some (.slice A xs.length c) ∧ W'.cell? ⟨w.heap.size + 1, 0, none⟩ = some (.int .i64 p.1) ∧ W'.cell? ⟨w.heap.size + 1, 1, none⟩ = some (.int .i64 p.2) from by
    have h1 := (hb.block w.heap.size (by omega)).trans k1
    have h2 := (hb.block (w.heap.size + 1) (by omega)).trans k2
    exact ⟨by rw [cell_of_row _ _ _ _ _ _ h1]; rfl, by rw [cell_of_row _ _ _ _ _ _ h2]; rfl, by rw [cell_of_row _ _ _ _ _ _ h2]; rfl⟩)
  have HXs := Lib.hid fun (k : Nat) (hk : k < xs.length) (W' : World) (hb : Below w.heap.size w W') => (show ∃ b off, A = some ⟨b, off, none⟩ ∧ W'.cell? ⟨b, off + k * 2, none⟩ = some (.int .i64 xs[k]!.1) ∧ W'.cell? ⟨b, off + k * 2 + 1, none⟩ = some (.int .i64 xs[k]!.2) from by
    obtain ⟨b, off, h1, _, h2, h3⟩ := RdR.get hR hb hk
    exact ⟨b, off, h1, h2, h3⟩)
  have cN := Lib.hid fun (q : Pt) (W' : World) => con_near q W'
  have cC := Lib.hid fun (W' : World) (hb : Below w.heap.size w W') => con_contains xs p A c W' (hR.below hb) hl
  have cO := Lib.hid fun (a b : Pt) (W' : World) (ha : nearB a = true) (hb : nearB b = true) (hp : nearB p = true) => geom_on a b p W' (nearB_iff.1 ha) (nearB_iff.1 hb) (nearB_iff.1 hp)
  have cS := Lib.hid fun (a b : Pt) (W' : World) (ha : nearB a = true) (hb : nearB b = true) (hp : nearB p = true) => geom_Side a b p W' (nearB_iff.1 ha) (nearB_iff.1 hb) (nearB_iff.1 hp)
  have HFar := Lib.hid fun h => insV_far (xs := xs) (p := p) h
  have HNear := Lib.hid fun h h2 => insV_near (xs := xs) (p := p) h h2
  clear k1 k2 hR
  generalize insV xs p = r at *
  obtain ⟨px, py⟩ := p
  unfold aggP at *
  dsimp only at *
  have HB := Lib.hid hB
  go_enter Try.func19, Try.ntmps19
  go_upto_region 2 with fail
  generalize ((w.alloc (.cells #[.int .i64 lv, .slice A xs.length c] 41)).alloc (.cells #[.int .i64 px, .int .i64 py] 23)) = w0 at *
  obtain ⟨i1, i2, i3⟩ := HI.out w0 (Below.refl _ _)
  clear hB
  go_wp2_with fail
  refine (cN.out (px, py) w0).mono ?_
  rintro e w1 ⟨rfl, hb1⟩
  have HB1 := Lib.hid hb1
  clear i1 i2 i3 hb1
  have hszw : w.heap.size ≤ w0.heap.size := by omega
  obtain ⟨np, hnp⟩ : ∃ q, nearB (px, py) = q := ⟨_, rfl⟩
  rw [hnp]
  cases np
  · have HF := Lib.hid (HFar.out (by rw [hnp]; rfl))
    have HBz := Lib.hid (HB.out.trans (HB1.out.mono hszw))
    clear hnp
    go_wp2
    go_ret
    exact ⟨by rw [HF.out]; rfl, HBz.out⟩
  have HNP := Lib.hid hnp
  clear hnp
  obtain ⟨i1, i2, i3⟩ := HI.out w1 HB1.out
  go_upto_block 0 with fail
  clear i1 i2 i3
  go_wp2_with fail
  go_loopw [20] (fun i wr => ∃ k : Nat, k ≤ xs.length ∧ i = .int .i64 k ∧ (∀ j, j < k → nearB xs[j]! = true) ∧ Below w0.heap.size w0 wr) (fun i _ => xs.length - (intOf i).toNat)
  case atStart => exact ⟨0, by omega, rfl, fun j hj => by omega, HB1.out⟩
  case round =>
    clear HB1
    obtain ⟨k, hk, rfl, hall, kb⟩ := hrel
    have HBk := Lib.hid kb
    clear kb
    generalize wr = wa at *
    have hbz := Lib.hid (HB.out.trans (HBk.out.mono hszw))
    by_cases hlt : k < xs.length
    · have hli : (k : Int) < (xs.length : Int) := by omega
      obtain ⟨b, off, rfl, c1, c2⟩ := HXs.out k hlt wa hbz.out
      have HA := Lib.hid hall
      have HM := Lib.hid (show xs[k]! ∈ xs by rw [getElem!_pos xs k hlt]; exact List.getElem_mem hlt)
      obtain ⟨⟨x, y⟩, hz'⟩ : ∃ z, xs[k]! = z := ⟨_, rfl⟩
      have HZ := Lib.hid hz'
      rw [hz'] at c1 c2 HM
      dsimp only at c1 c2
      clear hz' hall
      go_wp2_with fail
      refine (cN.out (x, y) _).mono ?_
      rintro e w2 ⟨rfl, hb2⟩
      have HB2 := Lib.hid (HBk.out.trans ((below_lit hb2).mono HBk.out.size))
      have HBz := Lib.hid (HB.out.trans (HB2.out.mono hszw))
      clear c1 c2 hb2
      obtain ⟨q, hq⟩ : ∃ q, nearB (x, y) = q := ⟨_, rfl⟩
      rw [hq]
      cases q
      · have HF := Lib.hid (HFar.out (by
          rw [HNP.out, Bool.true_and, List.all_eq_false]
          exact ⟨_, HM.out, by rw [hq]; decide⟩))
        clear hq
        go_wp2
        go_ret
        exact ⟨by rw [HF.out]; rfl, HBz.out⟩
      · have HQ := Lib.hid hq
        clear hq
        go_wp2
        go_roundw
        case rel => exact ⟨k + 1, by omega, by go_num, fun j hj => (by
          by_cases e : j = k
          · rw [e, HZ.out]; exact HQ.out
          · exact HA.out j (by omega)), HB2.out⟩
        case measure => simp [intOf]; omega
    · have hkn : xs.length = k := by omega
      have HAll := Lib.hid (fun j (hj : j < xs.length) => hall j (by omega))
      have HAllB := Lib.hid (show xs.all nearB = true by
        rw [List.all_eq_true]
        intro q hq
        obtain ⟨j, hj, rfl⟩ := List.mem_iff_getElem.1 hq
        have := hall j (by omega)
        rwa [getElem!_pos xs j hj] at this)
      have HN := Lib.hid (HNear.out HNP.out HAllB.out)
      clear hall HAllB HFar HNear
      subst hkn
      have hge : ¬ ((xs.length : Int) < (xs.length : Int)) := by omega
      obtain ⟨i1, i2, i3⟩ := HI.out wa HBk.out
      obtain ⟨d, hd⟩ : ∃ d, decide ((px, py) ∈ xs) = d := ⟨_, rfl⟩
      have cC1 := Lib.hid (cC.out wa hbz.out)
      rw [hd] at cC1
      go_wp2_with fail
      refine cC1.out.mono ?_
      rintro e w3 ⟨rfl, hb3⟩
      have HB3 := Lib.hid (HBk.out.trans (hb3.mono HBk.out.size))
      have HBz := Lib.hid (HB.out.trans (HB3.out.mono hszw))
      clear hb3 cC1 cC i1 i2 i3
      cases d
      rotate_left
      · have HF := Lib.hid (HN.out.trans (if_pos (of_decide_eq_true hd)))
        clear hd
        go_wp2
        go_ret
        exact ⟨by rw [HF.out]; rfl, HBz.out⟩
      have HN2 := Lib.hid (HN.out.trans (if_neg (of_decide_eq_false hd)))
      clear hd HN
      have HON := Lib.hid fun k (hk : k < xs.length - 1) (h : onB xs[k]! xs[k + 1]! (px, py) = true) => (show r = 0 from HN2.out.trans (if_pos (onTo_of hk h)))
      have HOF := Lib.hid fun (h : onTo xs (px, py) (xs.length - 1) = false) => HN2.out.trans (if_neg (by rw [h]; decide))
      clear HN2
      have HOS := Lib.hid fun k => onTo_succ xs (px, py) k
      have HDS := Lib.hid fun k => (show oddTo xs (px, py) (k + 1) = if crsP xs[k]! xs[k + 1]! (px, py) then !oddTo xs (px, py) k else oddTo xs (px, py) k from rfl)
      have HO0 := Lib.hid (show onTo xs (px, py) 0 = false from rfl)
      have HD0 := Lib.hid (show oddTo xs (px, py) 0 = false from rfl)
      have HCP := Lib.hid fun a b => crsP_eq a b (px, py)
      generalize onTo xs (px, py) = ot at *
      generalize oddTo xs (px, py) = od at *
      clear hge hlt hk HBz hbz
      go_upto_block 2 with fail
      go_wp2_with fail
      go_loopw [8, 9] (fun s8 i wr => ∃ k : Nat, k ≤ xs.length - 1 ∧ i = .int .i64 ((k : Int) + 1) ∧ s8 = .bool (od k) ∧ ot k = false ∧ Below w0.heap.size w0 wr) (fun _ i _ => xs.length - (intOf i).toNat)
      case atStart => exact ⟨0, by omega, rfl, by rw [HD0.out], HO0.out, HB3.out⟩
      case round =>
        clear HB3 HBk
        obtain ⟨k, hk, rfl, rfl, hot, kb⟩ := hrel
        have HBk := Lib.hid kb
        clear kb
        generalize wr = wb at *
        obtain ⟨i1, i2, i3⟩ := HI.out wb HBk.out
        have hbz := Lib.hid (HB.out.trans (HBk.out.mono hszw))
        have hsz3 := HBk.out.size
        by_cases hlk : k < xs.length - 1
        rotate_left
        · have hkm : xs.length - 1 = k := by omega
          have hge : ¬ ((k : Int) + 1 < (xs.length : Int)) := by omega
          rw [hkm] at HOF
          have HF := Lib.hid (HOF.out hot)
          clear HOF hot
          obtain ⟨o, ho⟩ : ∃ o, od k = o := ⟨_, rfl⟩
          rw [ho] at HF ⊢
          have hk1 : o = true → 1 ≤ k := fun h => by
            rcases Nat.eq_zero_or_pos k with rfl | h1
            · rw [HD0.out] at ho; rw [h] at ho; cases ho
            · exact h1
          clear ho
          cases o
          · clear hk1
            have HF2 := Lib.hid (HF.out.trans (if_neg (fun h => by cases h.1)))
            clear HF
            go_wp2_with fail
            go_quiet (fail)
            go_wp2
            go_ret
            exact ⟨by rw [HF2.out]; rfl, below_drewN hbz.out _⟩
          · have hk2 := hk1 rfl
            clear hk1
            obtain ⟨b, off, rfl, c1, c2⟩ := HXs.out 0 (by omega) wb hbz.out
            obtain ⟨b', off', he, c3, c4⟩ := HXs.out (xs.length - 1) (by omega) wb hbz.out
            injection he with he
            injection he with e1 e2
            subst e1 e2
            rw [Nat.zero_mul, Nat.add_zero] at c1 c2
            have hln : (xs.length : Int) - 1 = ((xs.length - 1 : Nat) : Int) := by omega
            have hi0 : (0 : Int) ≤ ((xs.length - 1 : Nat) : Int) := by omega
            have hi1 : ((xs.length - 1 : Nat) : Int) < (xs.length : Int) := by omega
            have hi2 : (0 : Int) < (xs.length : Int) := by omega
            rw [hkm] at c3 c4 hln hi0 hi1
            obtain ⟨⟨x1, y1⟩, hx1⟩ : ∃ z, xs[0]! = z := ⟨_, rfl⟩
            obtain ⟨⟨x2, y2⟩, hx2⟩ : ∃ z, xs[k]! = z := ⟨_, rfl⟩
            rw [hx1] at c1 c2
            rw [hx2] at c3 c4
            rw [hx1, hx2] at HF
            dsimp only at c1 c2 c3 c4
            clear hx1 hx2 hkm
            have heq := Try.eql23
            have hgd := Try.guard23
            by_cases hd : (x1, y1) = (x2, y2)
            · have HF2 := Lib.hid (HF.out.trans (if_pos ⟨rfl, hd⟩))
              injection hd with e1 e2
              subst e1 e2
              clear HF
              go_wp2_with fail
              go_quiet (fail)
              go_wp2
              go_ret
              exact ⟨by rw [HF2.out]; rfl, below_drewN hbz.out _⟩
            · have HF2 := Lib.hid (HF.out.trans (if_neg fun h => hd h.2))
              clear HF
              go_wp2_with fail
              go_quiet (fail)
              go_wp2
              go_ret
              exact ⟨by rw [HF2.out]; rfl, below_drewN hbz.out _⟩
        · have hli : (k : Int) + 1 < (xs.length : Int) := by omega
          have HX1 := Lib.hid fun (W' : World) (hb : Below wb.heap.size wb W') => HXs.out k (by omega) W' (hbz.out.trans (hb.mono hbz.out.size))
          have HX2 := Lib.hid fun (W' : World) (hb : Below wb.heap.size wb W') => HXs.out (k + 1) (by omega) W' (hbz.out.trans (hb.mono hbz.out.size))
          have HIb := Lib.hid fun (W' : World) (hb : Below wb.heap.size wb W') => HI.out W' (HBk.out.trans (hb.mono hsz3))
          have HONk := Lib.hid (HON.out k (by omega))
          have HOSk := Lib.hid (HOS.out k)
          have HDSk := Lib.hid (HDS.out k)
          have HCk := Lib.hid (HCP.out xs[k]! xs[k + 1]!)
          have cOk := Lib.hid fun W' => cO.out xs[k]! xs[k + 1]! W' (HAll.out k (by omega)) (HAll.out (k + 1) (by omega)) HNP.out
          have cSk := Lib.hid fun W' => cS.out xs[k]! xs[k + 1]! W' (HAll.out k (by omega)) (HAll.out (k + 1) (by omega)) HNP.out
          obtain ⟨b, off, rfl, _⟩ := HX1.out wb (Below.refl _ _)
          obtain ⟨⟨x1, y1⟩, hx1⟩ : ∃ z, xs[k]! = z := ⟨_, rfl⟩
          obtain ⟨⟨x2, y2⟩, hx2⟩ : ∃ z, xs[k + 1]! = z := ⟨_, rfl⟩
          rw [hx1, hx2] at HONk HOSk HDSk HCk cOk cSk
          have HXa := Lib.hid fun (W' : World) (hb : Below wb.heap.size wb W') => (show W'.cell? ⟨b, off + k * 2, none⟩ = some (.int .i64 x1) ∧ W'.cell? ⟨b, off + k * 2 + 1, none⟩ = some (.int .i64 y1) ∧ W'.cell? ⟨b, off + (k + 1) * 2, none⟩ = some (.int .i64 x2) ∧ W'.cell? ⟨b, off + (k + 1) * 2 + 1, none⟩ = some (.int .i64 y2) from by
            obtain ⟨b1, o1, h1, h2, h3⟩ := HX1.out W' hb
            obtain ⟨b2, o2, h4, h5, h6⟩ := HX2.out W' hb
            injection h1 with h1
            injection h1 with h1 h1'
            injection h4 with h4
            injection h4 with h4 h4'
            subst h1 h1' h4 h4'
            rw [hx1] at h2 h3
            rw [hx2] at h5 h6
            exact ⟨h2, h3, h5, h6⟩)
          clear hx1 hx2 HX1 HX2 HXs HON HOS HDS HCP cO cS HAll HOF
          have hik : (k : Int) + 1 - 1 = (k : Int) := by omega
          have hk0 : (0 : Int) ≤ (k : Int) := by omega
          have hkl : (k : Int) < (xs.length : Int) := by omega
          go_upto_region 16 with fail
          clear i1 i2 i3
          have hwk : IntKind.i64.wrap (k : Int) = (k : Int) := IntWalk.i64_in _ (by omega)
          have hkp : (0 : Int) ≤ (k : Int) + 1 := by omega
          have hkt : ((k : Int) + 1).toNat = k + 1 := by omega
          have hS0 : (fun W' : World => Below wb.heap.size wb W') wb.drew := (Below.refl _ _).drew
          refine wp_region_held_drew (S := (fun W' : World => Below wb.heap.size wb W')) (by kernel_rfl) hS0 (fun hHeld => ?_)
          clear hHeld
          generalize wb.drew = wzra at *
          refine wpAnyH_take (i := 0) (oi := ⟨some 40, _, _, _, _, _⟩) (v := ?vra1) rfl (by kernel_rfl) (by kernel_rfl) (by kernel_rfl) (fun _ _ _ h => h) (Or.inl ⟨by kernel_rfl, ?hyra1⟩) (by assumption) ?restra1
          case hyra1 => (intro W hSw; (try dsimp only at hSw); go_simp; try with_reducible rfl)
          case' restra1 => try simp only [Act.put, List.setIfInBounds_toArray, List.set_cons_zero, List.set_cons_succ]
          refine wpAnyH_take (i := 1) (oi := ⟨some 41, _, _, _, _, _⟩) (v := ?vra2) rfl (by kernel_rfl) (by kernel_rfl) (by kernel_rfl) (fun _ _ _ h => h) (Or.inl ⟨by kernel_rfl, ?hyra2⟩) (by assumption) ?restra2
          case hyra2 => (intro W hSw; obtain ⟨i1, i2, i3⟩ := HIb.out W hSw; obtain ⟨c1, c2, c3, c4⟩ := HXa.out W hSw; (try dsimp only at hSw); go_simp; try with_reducible rfl)
          case' restra2 => try simp only [Act.put, List.setIfInBounds_toArray, List.set_cons_zero, List.set_cons_succ]
          refine wpAnyH_take (i := 2) (oi := ⟨some 42, _, _, _, _, _⟩) (v := ?vra3) rfl (by kernel_rfl) (by kernel_rfl) (by kernel_rfl) (fun _ _ _ h => h) (Or.inl ⟨by kernel_rfl, ?hyra3⟩) (by assumption) ?restra3
          case hyra3 => (intro W hSw; (try dsimp only at hSw); go_simp; try with_reducible rfl)
          case' restra3 => try simp only [Act.put, List.setIfInBounds_toArray, List.set_cons_zero, List.set_cons_succ]
          refine wpAnyH_take (i := 3) (oi := ⟨some 43, _, _, _, _, _⟩) (v := ?vra4) rfl (by kernel_rfl) (by kernel_rfl) (by kernel_rfl) (fun _ _ _ h => h) (Or.inl ⟨by kernel_rfl, ?hyra4⟩) (by assumption) ?restra4
          case hyra4 => (intro W hSw; (try dsimp only at hSw); go_simp; try with_reducible rfl)
          case' restra4 => try simp only [Act.put, List.setIfInBounds_toArray, List.set_cons_zero, List.set_cons_succ]
          refine wpAnyH_take (i := 4) (oi := ⟨some 44, _, _, _, _, _⟩) (v := ?vra5) rfl (by kernel_rfl) (by kernel_rfl) (by kernel_rfl) (fun _ _ _ h => h) (Or.inl ⟨by kernel_rfl, ?hyra5⟩) (by assumption) ?restra5
          case hyra5 => (intro W hSw; (try dsimp only at hSw); go_simp; try with_reducible rfl)
          case' restra5 => try simp only [Act.put, List.setIfInBounds_toArray, List.set_cons_zero, List.set_cons_succ]
          refine wpAnyH_take (i := 5) (oi := ⟨some 45, _, _, _, _, _⟩) (v := ?vra6) rfl (by kernel_rfl) (by kernel_rfl) (by kernel_rfl) (fun _ _ _ h => h) (Or.inl ⟨by kernel_rfl, ?hyra6⟩) (by assumption) ?restra6
          case hyra6 => (intro W hSw; obtain ⟨i1, i2, i3⟩ := HIb.out W hSw; obtain ⟨c1, c2, c3, c4⟩ := HXa.out W hSw; (try dsimp only at hSw); go_simp; try with_reducible rfl)
          case' restra6 => try simp only [Act.put, List.setIfInBounds_toArray, List.set_cons_zero, List.set_cons_succ]
          refine wpAnyH_take (i := 6) (oi := ⟨some 46, _, _, _, _, _⟩) (v := ?vra7) rfl (by kernel_rfl) (by kernel_rfl) (by kernel_rfl) (fun _ _ _ h => h) (Or.inl ⟨by kernel_rfl, ?hyra7⟩) (by assumption) ?restra7
          case hyra7 => (intro W hSw; (try dsimp only at hSw); go_simp; try with_reducible rfl)
          case' restra7 => try simp only [Act.put, List.setIfInBounds_toArray, List.set_cons_zero, List.set_cons_succ]
          refine wpAnyH_take (i := 7) (oi := ⟨some 47, _, _, _, _, _⟩) (v := ?vra8) rfl (by kernel_rfl) (by kernel_rfl) (by kernel_rfl) (fun _ _ _ h => h) (Or.inl ⟨by kernel_rfl, ?hyra8⟩) (by assumption) ?restra8
          case hyra8 => (intro W hSw; obtain ⟨i1, i2, i3⟩ := HIb.out W hSw; obtain ⟨c1, c2, c3, c4⟩ := HXa.out W hSw; (try dsimp only at hSw); go_simp; try with_reducible rfl)
          case' restra8 => try simp only [Act.put, List.setIfInBounds_toArray, List.set_cons_zero, List.set_cons_succ]
          refine wpAnyH_take (i := 8) (oi := ⟨some 48, _, _, _, _, _⟩) (v := ?vra9) rfl (by kernel_rfl) (by kernel_rfl) (by kernel_rfl) (fun _ _ _ h => h) (Or.inl ⟨by kernel_rfl, ?hyra9⟩) (by assumption) ?restra9
          case hyra9 => (intro W hSw; (try dsimp only at hSw); go_simp; try with_reducible rfl)
          case' restra9 => try simp only [Act.put, List.setIfInBounds_toArray, List.set_cons_zero, List.set_cons_succ]
          refine wpAnyH_take (i := 9) (oi := ⟨some 49, _, _, _, _, _⟩) (v := ?vra10) rfl (by kernel_rfl) (by kernel_rfl) (by kernel_rfl) (fun _ _ _ h => h) (Or.inl ⟨by kernel_rfl, ?hyra10⟩) (by assumption) ?restra10
          case hyra10 => (intro W hSw; (try dsimp only at hSw); go_simp; try with_reducible rfl)
          case' restra10 => try simp only [Act.put, List.setIfInBounds_toArray, List.set_cons_zero, List.set_cons_succ]
          refine wpAnyH_take (i := 10) (oi := ⟨some 50, _, _, _, _, _⟩) (v := ?vra11) rfl (by kernel_rfl) (by kernel_rfl) (by kernel_rfl) (fun _ _ _ h => h) (Or.inl ⟨by kernel_rfl, ?hyra11⟩) (by assumption) ?restra11
          case hyra11 => (intro W hSw; obtain ⟨i1, i2, i3⟩ := HIb.out W hSw; obtain ⟨c1, c2, c3, c4⟩ := HXa.out W hSw; (try dsimp only at hSw); go_simp; try with_reducible rfl)
          case' restra11 => try simp only [Act.put, List.setIfInBounds_toArray, List.set_cons_zero, List.set_cons_succ]
          refine' wpAnyH_share (fun H f l (act : Value → Value → Act) => ∀ (pv1 : Value) (pv2 : Value) (WX : World), BoxV wb.heap.size WX pv1 (0, 0) → BoxV wb.heap.size WX pv2 (0, 0) → NeV WX pv1 pv2 → (fun W' : World => Below wb.heap.size wb W') WX → H f l (act pv1 pv2) WX) (fun tailra12 => ?mtailra12) ?ttailra12
          case mtailra12 =>
            refine wpAnyH_ready (rs := [11, 12]) (by kernel_rfl) (by simp) ?_
            refine AllReadyH.cons (o := ⟨some 10, _, _, _, _, _⟩) rfl (fun K hK => ?_) ?_
            · skip
              go_simp
              have hx1 := BoxV.new wzra hS0.size
              have hSWra1 := hS0.alloc hS0.size (.cells #[.int .i64 0, .int .i64 0] 23)
              refine hK.out _ _ hSWra1 (fun hHeld => ?_)
              clear hK hHeld K
              try clear hS0
              try simp only [Act.put, List.setIfInBounds_toArray, List.set_cons_zero, List.set_cons_succ]
              generalize (wzra.alloc (.cells #[.int .i64 0, .int .i64 0] 23)) = Wra1 at hx1 hSWra1 ⊢
              generalize Value.pointer (some ⟨wzra.heap.size, 0, none⟩) = pv1 at hx1 ⊢
              refine wpAnyH_ready (rs := [12]) (by kernel_rfl) (by simp) ?_
              refine AllReadyH.cons (o := ⟨some 11, _, _, _, _, _⟩) rfl (fun K hK => ?_) AllReadyH.nil
              go_simp
              have hx2 := BoxV.new Wra1 hSWra1.size
              have hne := NeV.new2 hx1 (.cells #[.int .i64 0, .int .i64 0] 23)
              replace hx1 := hx1.alloc (.cells #[.int .i64 0, .int .i64 0] 23)
              have hSWra2 := hSWra1.alloc hSWra1.size (.cells #[.int .i64 0, .int .i64 0] 23)
              refine hK.out _ _ hSWra2 (fun hHeld => ?_)
              clear hK hHeld K
              try clear hSWra1
              try simp only [Act.put, List.setIfInBounds_toArray, List.set_cons_zero, List.set_cons_succ]
              generalize (Wra1.alloc (.cells #[.int .i64 0, .int .i64 0] 23)) = Wra2 at hx2 hne hx1 hSWra2 ⊢
              generalize Value.pointer (some ⟨Wra1.heap.size, 0, none⟩) = pv2 at hx2 hne ⊢
              exact wpAnyH_cast rfl rfl (tailra12 pv1 pv2 Wra2 hx1 hx2 hne hSWra2)
            refine AllReadyH.cons (o := ⟨some 11, _, _, _, _, _⟩) rfl (fun K hK => ?_) AllReadyH.nil
            go_simp
            have hx2 := BoxV.new wzra hS0.size
            have hSWra3 := hS0.alloc hS0.size (.cells #[.int .i64 0, .int .i64 0] 23)
            refine hK.out _ _ hSWra3 (fun hHeld => ?_)
            clear hK hHeld K
            try clear hS0
            try simp only [Act.put, List.setIfInBounds_toArray, List.set_cons_zero, List.set_cons_succ]
            generalize (wzra.alloc (.cells #[.int .i64 0, .int .i64 0] 23)) = Wra3 at hx2 hSWra3 ⊢
            generalize Value.pointer (some ⟨wzra.heap.size, 0, none⟩) = pv2 at hx2 ⊢
            refine wpAnyH_ready (rs := [11]) (by kernel_rfl) (by simp) ?_
            refine AllReadyH.cons (o := ⟨some 10, _, _, _, _, _⟩) rfl (fun K hK => ?_) AllReadyH.nil
            go_simp
            have hx1 := BoxV.new Wra3 hSWra3.size
            have hne := NeV.new1 hx2 (.cells #[.int .i64 0, .int .i64 0] 23)
            replace hx2 := hx2.alloc (.cells #[.int .i64 0, .int .i64 0] 23)
            have hSWra4 := hSWra3.alloc hSWra3.size (.cells #[.int .i64 0, .int .i64 0] 23)
            refine hK.out _ _ hSWra4 (fun hHeld => ?_)
            clear hK hHeld K
            try clear hSWra3
            try simp only [Act.put, List.setIfInBounds_toArray, List.set_cons_zero, List.set_cons_succ]
            generalize (Wra3.alloc (.cells #[.int .i64 0, .int .i64 0] 23)) = Wra4 at hx1 hne hx2 hSWra4 ⊢
            generalize Value.pointer (some ⟨Wra3.heap.size, 0, none⟩) = pv1 at hx1 hne ⊢
            exact wpAnyH_cast (by kernel_rfl) (by kernel_rfl) (tailra12 pv1 pv2 Wra4 hx1 hx2 hne hSWra4)
          case ttailra12 =>
            try clear hS0
            intro pv1 pv2 Wra5 hx1 hx2 hne hSWra5
            refine wpAnyH_ready (rs := [13]) (by kernel_rfl) (by simp) ?_
            refine AllReadyH.cons (o := ⟨none, _, _, _, _, _⟩) rfl (fun K hK => ?_) AllReadyH.nil
            refine BoxV.store hx1 (x1, y1) rfl _ _ rfl rfl rfl (fun Wra6 hbx hbo hbW => ?_)
            have hSWra6 := hSWra5.trans hbW
            have hox := hbo _ _ (Ne.symm hne) hx2
            clear hx1 hx2 hbW hbo hSWra5
            have hx1 := hbx
            have hx2 := hox
            clear hbx hox
            refine hK.out _ _ hSWra6 (fun hHeld => ?_)
            clear hK hHeld K
            try simp only [Act.put, List.setIfInBounds_toArray, List.set_cons_zero, List.set_cons_succ]
            refine wpAnyH_ready (rs := [14]) (by kernel_rfl) (by simp) ?_
            refine AllReadyH.cons (o := ⟨none, _, _, _, _, _⟩) rfl (fun K hK => ?_) AllReadyH.nil
            refine BoxV.store hx2 (x2, y2) rfl _ _ rfl rfl rfl (fun Wra7 hbx hbo hbW => ?_)
            have hSWra7 := hSWra6.trans hbW
            have hox := hbo _ _ hne hx1
            clear hx2 hx1 hbW hbo hSWra6
            have hx2 := hbx
            have hx1 := hox
            clear hbx hox
            refine hK.out _ _ hSWra7 (fun hHeld => ?_)
            clear hK hHeld K
            try simp only [Act.put, List.setIfInBounds_toArray, List.set_cons_zero, List.set_cons_succ]
            refine wpAnyH_done (by kernel_rfl) ?_ _
            obtain ⟨n1', rfl, hn1, bx1⟩ := hx1
            obtain ⟨n2', rfl, hn2, bx2⟩ := hx2
            clear hne
            have HY := Lib.hid fun (W' : World) (hW : Below Wra7.heap.size Wra7 W') => (⟨bx1.below hW, bx2.below hW⟩ : BoxP W' n1' (x1, y1) ∧ BoxP W' n2' (x2, y2))
            have HBx := Lib.hid (HBk.out.trans (hSWra7.mono hsz3))
            have HIx := Lib.hid fun (W' : World) (hW : Below Wra7.heap.size Wra7 W') => HIb.out W' (hSWra7.trans (hW.mono hSWra7.size))
            clear bx1 bx2 hSWra7 HIb HXa HBk hbz
            generalize Wra7 = w5 at *
            obtain ⟨i1, i2, i3⟩ := HIx.out w5 (Below.refl _ _)
            obtain ⟨q1, q2⟩ := HY.out w5 (Below.refl _ _)
            obtain ⟨j1, j2, _, _, _⟩ := q1.cel
            obtain ⟨j3, j4, _, _, _⟩ := q2.cel
            dsimp only at j1 j2 j3 j4
            clear q1 q2
            go_wp2_with fail
            refine (cOk.out w5).mono ?_
            rintro e w6 ⟨rfl, hb6⟩
            clear i1 i2 i3 j1 j2 j3 j4
            have HB6 := Lib.hid (HBx.out.trans (hb6.mono HBx.out.size))
            have HY6 := Lib.hid fun (W' : World) (hW : Below w6.heap.size w6 W') => HY.out W' (hb6.trans (hW.mono hb6.size))
            have HI6 := Lib.hid fun (W' : World) (hW : Below w6.heap.size w6 W') => HIx.out W' (hb6.trans (hW.mono hb6.size))
            clear hb6 HY HIx HBx
            obtain ⟨o, ho⟩ : ∃ o, onB (x1, y1) (x2, y2) (px, py) = o := ⟨_, rfl⟩
            rw [ho] at HONk HOSk ⊢
            clear ho
            cases o
            rotate_left
            · have HF := Lib.hid (HONk.out rfl)
              have HBz := Lib.hid (HB.out.trans (HB6.out.mono hszw))
              go_wp2
              go_ret
              exact ⟨by rw [HF.out]; rfl, HBz.out⟩
            have HOT := Lib.hid (show ot (k + 1) = false by rw [HOSk.out, hot]; rfl)
            clear HOSk HONk hot
            obtain ⟨i1, i2, i3⟩ := HI6.out w6 (Below.refl _ _)
            obtain ⟨q1, q2⟩ := HY6.out w6 (Below.refl _ _)
            obtain ⟨j1, j2, _, _, _⟩ := q1.cel
            obtain ⟨j3, j4, _, _, _⟩ := q2.cel
            dsimp only at j1 j2 j3 j4
            clear q1 q2
            go_wp2_with fail
            refine (cSk.out w6).mono ?_
            rintro e w7 ⟨rfl, hb7⟩
            clear i1 i2 i3 j1 j2 j3 j4
            obtain ⟨i1, i2, i3⟩ := HI6.out w7 hb7
            obtain ⟨q1, q2⟩ := HY6.out w7 hb7
            obtain ⟨j1, j2, _, _, _⟩ := q1.cel
            obtain ⟨j3, j4, _, _, _⟩ := q2.cel
            dsimp only at j1 j2 j3 j4
            have HB7 := Lib.hid (HB6.out.trans (hb7.mono HB6.out.size))
            clear q1 q2 hb7 HI6 HY6 HB6
            generalize sd (x1, y1) (x2, y2) (px, py) = s at *
            generalize crsP (x1, y1) (x2, y2) (px, py) = cr at *
            generalize od k = o at *
            go_upto_region 20 with fail
            go_cut [92] (fun s92 wc => s92 = .bool cr ∧ wc = w7)
            case first =>
              clear cOk cSk HDSk
              try dsimp only at HCk
              by_cases g1 : y1 ≤ py
              · by_cases g2 : py < y2
                · have g4 : ¬ y2 ≤ py := by omega
                  by_cases g3 : s = 1
                  · obtain rfl : cr = true := by rw [HCk.out]; simp [g1, g2, g3]
                    subst g3
                    go_wp2
                    go_meet
                    exact ⟨rfl, rfl⟩
                  · obtain rfl : cr = false := by rw [HCk.out]; simp [g1, g2, g3, g4]
                    go_wp2
                    go_meet
                    exact ⟨by simp [g3], rfl⟩
                · have g4 : y2 ≤ py := by omega
                  have g5 : ¬ py < y1 := by omega
                  obtain rfl : cr = false := by rw [HCk.out]; simp [g1, g2, g4, g5]
                  go_wp2
                  go_meet
                  exact ⟨by simp, rfl⟩
              · by_cases g4 : y2 ≤ py
                · have g5 : py < y1 := by omega
                  by_cases g6 : s = -1
                  · obtain rfl : cr = true := by rw [HCk.out]; simp [g1, g4, g5, g6]
                    subst g6
                    go_wp2
                    go_meet
                    exact ⟨by simp, rfl⟩
                  · obtain rfl : cr = false := by rw [HCk.out]; simp [g1, g4, g5, g6]
                    go_wp2
                    go_meet
                    exact ⟨by simp [g6], rfl⟩
                · obtain rfl : cr = false := by rw [HCk.out]; simp [g1, g4]
                  go_wp2
                  go_meet
                  exact ⟨by simp, rfl⟩
            case rest =>
              obtain ⟨rfl, rfl⟩ := hcut
              clear i1 i2 i3 j1 j2 j3 j4 HCk cOk cSk
              generalize wc = w7 at *
              cases cr
              · have HD := Lib.hid (HDSk.out.trans (if_neg (by decide)))
                clear HDSk
                go_wp2
                go_roundw
                case rel => exact ⟨k + 1, by omega, by go_num, by rw [HD.out], HOT.out, HB7.out⟩
                case measure => simp [intOf]; omega
              · have HD := Lib.hid (HDSk.out.trans (if_pos rfl))
                clear HDSk
                go_wp2
                go_roundw
                case rel => exact ⟨k + 1, by omega, by go_num, by rw [HD.out], HOT.out, HB7.out⟩
                case measure => simp [intOf]; omega
end Go.Proofs
