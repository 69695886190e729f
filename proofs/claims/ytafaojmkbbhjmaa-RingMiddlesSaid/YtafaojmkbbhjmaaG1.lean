/- Points: valid, twice, sides. -/
import Derived.Test.YtafaojmkbbhjmaaA3
set_option linter.unusedVariables false
set_option linter.unusedSimpArgs false
namespace Go.Proofs
open Go.RowKit Go.Proofs.Mp

abbrev Pt := Int × Int
/-- a point's value -/
def aggP (p : Pt) : Value := .agg #[.int .i64 p.1, .int .i64 p.2]
/-- near points -/
def Nr (p : Pt) : Prop := -2097152 ≤ p.1 ∧ p.1 ≤ 2097152 ∧ -2097152 ≤ p.2 ∧ p.2 ≤ 2097152
/-- valid points -/
def Vp (p : Pt) : Prop := -1048576 ≤ p.1 ∧ p.1 ≤ 1048576 ∧ -1048576 ≤ p.2 ∧ p.2 ≤ 1048576
instance (p : Pt) : Decidable (Nr p) := by unfold Nr; infer_instance
instance (p : Pt) : Decidable (Vp p) := by unfold Vp; infer_instance
theorem Vp.nr {p : Pt} (h : Vp p) : Nr p := by unfold Vp at h; unfold Nr; omega
/-- twice the area of a triangle -/
def tw (a b c : Pt) : Int := (b.1 - a.1) * (c.2 - a.2) - (b.2 - a.2) * (c.1 - a.1)
def sg (n : Int) : Int := if 0 < n then 1 else if n < 0 then -1 else 0
def sd (a b c : Pt) : Int := sg (tw a b c)

theorem bw3 (w : World) (o1 o2 o3 : Obj) : Below w.heap.size w (((w.alloc o1).alloc o2).alloc o3) := (((Below.refl _ _).alloc (Nat.le_refl _) _).alloc (by simp) _).alloc (by simp; omega) _
theorem bw1 (w : World) (o1 : Obj) : Below w.heap.size w (w.alloc o1) := (Below.refl _ _).alloc (Nat.le_refl _) _

theorem mul_bound {a b n m : Int} (h1 : -n ≤ a) (h2 : a ≤ n) (h3 : -m ≤ b) (h4 : b ≤ m) (hn : 0 ≤ n) : -(n * m) ≤ a * b ∧ a * b ≤ n * m := by
  have hm : 0 ≤ m := by omega
  have e1 : (n - a) * (m - b) = n * m - n * b - a * m + a * b := by grind
  have e2 : (n + a) * (m + b) = n * m + n * b + a * m + a * b := by grind
  have e3 : (n - a) * (m + b) = n * m + n * b - a * m - a * b := by grind
  have e4 : (n + a) * (m - b) = n * m - n * b + a * m - a * b := by grind
  have p1 := Int.mul_nonneg (show 0 ≤ n - a by omega) (show 0 ≤ m - b by omega)
  have p2 := Int.mul_nonneg (show 0 ≤ n + a by omega) (show 0 ≤ m + b by omega)
  have p3 := Int.mul_nonneg (show 0 ≤ n - a by omega) (show 0 ≤ m + b by omega)
  have p4 := Int.mul_nonneg (show 0 ≤ n + a by omega) (show 0 ≤ m - b by omega)
  rw [e1] at p1; rw [e2] at p2; rw [e3] at p3; rw [e4] at p4
  constructor <;> omega

set_option maxHeartbeats 1000000 in
theorem ref_point (p : Pt) (w : World) : Calls Try.prog 21 #[aggP p] w (RetV w (.bool (decide (Vp p)))) := by
  obtain ⟨x, y⟩ := p
  unfold aggP Vp
  dsimp only
  by_cases h1 : -1048576 ≤ x
  rotate_left
  · go_enter Try.func21, Try.ntmps21
    go_wp2
    go_ret
    exact RetV.bool (by symm; apply decide_eq_false; omega) (bw1 _ _)
  by_cases h2 : x ≤ 1048576
  rotate_left
  · go_enter Try.func21, Try.ntmps21
    go_wp2
    go_ret
    exact RetV.bool (by symm; simp; intros; omega) (bw1 _ _)
  by_cases h3 : -1048576 ≤ y
  rotate_left
  · go_enter Try.func21, Try.ntmps21
    go_wp2
    go_ret
    exact RetV.bool (by symm; simp; intros; omega) (bw1 _ _)
  go_enter Try.func21, Try.ntmps21
  go_wp2
  go_ret
  exact RetV.bool (by simp [h1, h2, h3]) (bw1 _ _)

set_option maxHeartbeats 1000000 in
theorem ring_valid (p : Pt) (w : World) : Calls Try.prog 39 #[aggP p] w (RetV w (.bool (decide (Vp p)))) := by
  obtain ⟨x, y⟩ := p
  unfold aggP Vp
  dsimp only
  by_cases h1 : -1048576 ≤ x
  rotate_left
  · go_enter Try.func39, Try.ntmps39
    go_wp2
    go_ret
    exact RetV.bool (by symm; apply decide_eq_false; omega) (bw1 _ _)
  by_cases h2 : x ≤ 1048576
  rotate_left
  · go_enter Try.func39, Try.ntmps39
    go_wp2
    go_ret
    exact RetV.bool (by symm; simp; intros; omega) (bw1 _ _)
  by_cases h3 : -1048576 ≤ y
  rotate_left
  · go_enter Try.func39, Try.ntmps39
    go_wp2
    go_ret
    exact RetV.bool (by symm; simp; intros; omega) (bw1 _ _)
  go_enter Try.func39, Try.ntmps39
  go_wp2
  go_ret
  exact RetV.bool (by simp [h1, h2, h3]) (bw1 _ _)

set_option maxHeartbeats 1000000 in
theorem geom_tw (a b c : Pt) (w : World) (ha : Nr a) (hb : Nr b) (hc : Nr c) : Calls Try.prog 42 #[aggP a, aggP b, aggP c] w (RetV w (.int .i64 (tw a b c))) := by
  obtain ⟨a1, a2⟩ := a
  obtain ⟨b1, b2⟩ := b
  obtain ⟨c1, c2⟩ := c
  unfold aggP tw
  unfold Nr at ha hb hc
  dsimp only at *
  obtain ⟨p1, p2⟩ := mul_bound (a := b1 - a1) (b := c2 - a2) (n := 4194304) (m := 4194304) (by omega) (by omega) (by omega) (by omega) (by omega)
  obtain ⟨q1, q2⟩ := mul_bound (a := b2 - a2) (b := c1 - a1) (n := 4194304) (m := 4194304) (by omega) (by omega) (by omega) (by omega) (by omega)
  go_enter Try.func42, Try.ntmps42
  go_wp2
  go_ret
  exact RetV.int (by simp) (bw3 _ _ _ _)

theorem sg_cases (n : Int) : (0 < n ∧ sg n = 1) ∨ (n < 0 ∧ sg n = -1) ∨ (n = 0 ∧ sg n = 0) := by
  unfold sg
  split
  · left; exact ⟨by assumption, rfl⟩
  · split
    · right; left; exact ⟨by assumption, rfl⟩
    · right; right; exact ⟨by omega, rfl⟩

set_option maxHeartbeats 1000000 in
theorem ref_side (a b c : Pt) (w : World) (ha : Nr a) (hb : Nr b) (hc : Nr c) : Calls Try.prog 44 #[aggP a, aggP b, aggP c] w (RetV w (.int .i64 (sd a b c))) := by
  have hs := sg_cases (tw a b c)
  have he : sd a b c = sg (tw a b c) := rfl
  rw [he]
  clear he
  have ht : tw a b c = (b.1 - a.1) * (c.2 - a.2) - (c.1 - a.1) * (b.2 - a.2) := by unfold tw; rw [Int.mul_comm (b.2 - a.2)]
  rw [ht] at hs ⊢
  clear ht
  obtain ⟨a1, a2⟩ := a
  obtain ⟨b1, b2⟩ := b
  obtain ⟨c1, c2⟩ := c
  unfold aggP
  unfold Nr at ha hb hc
  dsimp only at *
  obtain ⟨p1, p2⟩ := mul_bound (a := b1 - a1) (b := c2 - a2) (n := 4194304) (m := 4194304) (by omega) (by omega) (by omega) (by omega) (by omega)
  obtain ⟨q1, q2⟩ := mul_bound (a := c1 - a1) (b := b2 - a2) (n := 4194304) (m := 4194304) (by omega) (by omega) (by omega) (by omega) (by omega)
  rcases hs with ⟨h1, h2⟩ | ⟨h1, h2⟩ | ⟨h1, h2⟩
  all_goals
    rw [h2]
    clear h2
    go_enter Try.func44, Try.ntmps44
    go_wp2
    go_ret
    exact RetV.int rfl (bw3 _ _ _ _)

def allNr (zs : List Pt) : Prop := ∀ j, j < zs.length → Nr zs[j]!
set_option maxHeartbeats 600000 in
theorem geom_near (A : Option Addr) (c : Nat) (zs : List Pt) (w : World) (hmax : zs.length ≤ 1000000000000) (hall : allNr zs) (hR : RdR w A zs) :
    Calls Try.prog 41 #[.slice A zs.length c] w (RetV w (.bool true)) := by
  have HN := Lib.hid hall
  clear hall
  go_enter Try.func41, Try.ntmps41
  go_wp2
  go_loopw [7] (fun i wr => ∃ k : Nat, k ≤ zs.length ∧ i = .int .i64 k ∧ Below w.heap.size w wr) (fun i _ => zs.length - (intOf i).toNat)
  case atStart => exact ⟨0, by omega, rfl, Below.refl _ _⟩
  case round =>
    obtain ⟨k, hk, rfl, hbw⟩ := hrel
    have hbs := hbw.size
    by_cases hlt : k < zs.length
    · obtain ⟨b, off, rfl, hb, h1, h2⟩ := RdR.get hR hbw hlt
      have hz := HN.out k hlt
      rcases hzz : zs[k]! with ⟨x, y⟩
      rw [hzz] at h1 h2 hz
      unfold Nr at hz
      dsimp only at hz h1 h2
      obtain ⟨z1, z2, z3, z4⟩ := hz
      clear hzz
      have hbr : b < wr.heap.size := Nat.lt_of_lt_of_le hb hbs
      have hbl : Below w.heap.size w (wr.alloc (.cells #[.int .i64 x, .int .i64 y] 32)) := hbw.alloc hbs _
      go_wp2
      go_roundw
      case rel => exact ⟨k + 1, by omega, by go_num, hbl⟩
      case measure => simp [intOf]; omega
    · obtain rfl : k = zs.length := by omega
      go_wp2
      go_ret
      exact RetV.bool rfl hbw
end Go.Proofs
