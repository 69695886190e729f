/- Points: valid, twice, sides. -/
import Derived.Test.YtcfhhkdjdpkjpaaXJ1
import Derived.Lib.MinMax
import Derived.Deep.DeepCutAuto
import Derived.StillTailTactics
import Derived.Deep.CutRange
import Derived.BigQuiet
import Derived.Deep.QuietTactic
import Derived.Laws.EntriesVeiled
import Derived.Deep.CutBlock
set_option linter.unusedVariables false
set_option linter.unusedSimpArgs false
namespace Go.Proofs
open Go.RowKit Go.Proofs.Mp

abbrev Pt := Int × Int
/-- a point's value -/
def aggP (p : Pt) : Value := .agg #[.int .i64 p.1, .int .i64 p.2]
/-- near points -/
def Nr (p : Pt) : Prop := -2097152 ≤ p.1 ∧ p.1 ≤ 2097152 ∧ -2097152 ≤ p.2 ∧ p.2 ≤ 2097152
/-- valid points -/
def Vp (p : Pt) : Prop := -1048576 ≤ p.1 ∧ p.1 ≤ 1048576 ∧ -1048576 ≤ p.2 ∧ p.2 ≤ 1048576
instance (p : Pt) : Decidable (Nr p) := by unfold Nr; infer_instance
instance (p : Pt) : Decidable (Vp p) := by unfold Vp; infer_instance
theorem Vp.nr {p : Pt} (h : Vp p) : Nr p := by unfold Vp at h; unfold Nr; omega
/-- twice the area of a triangle -/
def tw (a b c : Pt) : Int := (b.1 - a.1) * (c.2 - a.2) - (b.2 - a.2) * (c.1 - a.1)
def sg (n : Int) : Int := if 0 < n then 1 else if n < 0 then -1 else 0
def sd (a b c : Pt) : Int := sg (tw a b c)

theorem bw3 (w : World) (o1 o2 o3 : Obj) : Below w.heap.size w (((w.alloc o1).alloc o2).alloc o3) := (((Below.refl _ _).alloc (Nat.le_refl _) _).alloc (by simp) _).alloc (by simp; omega) _
theorem bw1 (w : World) (o1 : Obj) : Below w.heap.size w (w.alloc o1) := (Below.refl _ _).alloc (Nat.le_refl _) _

theorem mul_bound {a b n m : Int} (h1 : -n ≤ a) (h2 : a ≤ n) (h3 : -m ≤ b) (h4 : b ≤ m) (hn : 0 ≤ n) : -(n * m) ≤ a * b ∧ a * b ≤ n * m := by
  have hm : 0 ≤ m := by omega
  have e1 : (n - a) * (m - b) = n * m - n * b - a * m + a * b := by grind
  have e2 : (n + a) * (m + b) = n * m + n * b + a * m + a * b := by grind
  have e3 : (n - a) * (m + b) = n * m + n * b - a * m - a * b := by grind
  have e4 : (n + a) * (m - b) = n * m - n * b + a * m - a * b := by grind
  have p1 := Int.mul_nonneg (show 0 ≤ n - a by omega) (show 0 ≤ m - b by omega)
  have p2 := Int.mul_nonneg (show 0 ≤ n + a by omega) (show 0 ≤ m + b by omega)
  have p3 := Int.mul_nonneg (show 0 ≤ n - a by omega) (show 0 ≤ m + b by omega)
  have p4 := Int.mul_nonneg (show 0 ≤ n + a by omega) (show 0 ≤ m - b by omega)
  rw [e1] at p1; rw [e2] at p2; rw [e3] at p3; rw [e4] at p4
  constructor <;> omega

set_option maxHeartbeats 1000000 in
theorem ref_point (p : Pt) (w : World) : Calls Try.prog 48 #[aggP p] w (RetV w (.bool (decide (Vp p)))) := by
  obtain ⟨x, y⟩ := p
  unfold aggP Vp
  dsimp only
  by_cases h1 : -1048576 ≤ x
  rotate_left
  · go_enter Try.func48, Try.ntmps48
    go_wp2
    go_ret
    exact RetV.bool (by symm; apply decide_eq_false; omega) (bw1 _ _)
  by_cases h2 : x ≤ 1048576
  rotate_left
  · go_enter Try.func48, Try.ntmps48
    go_wp2
    go_ret
    exact RetV.bool (by symm; simp; intros; omega) (bw1 _ _)
  by_cases h3 : -1048576 ≤ y
  rotate_left
  · go_enter Try.func48, Try.ntmps48
    go_wp2
    go_ret
    exact RetV.bool (by symm; simp; intros; omega) (bw1 _ _)
  go_enter Try.func48, Try.ntmps48
  go_wp2
  go_ret
  exact RetV.bool (by simp [h1, h2, h3]) (bw1 _ _)

set_option maxHeartbeats 1000000 in
theorem geom_tw (a b c : Pt) (w : World) (ha : Nr a) (hb : Nr b) (hc : Nr c) : Calls Try.prog 64 #[aggP a, aggP b, aggP c] w (RetV w (.int .i64 (tw a b c))) := by
  obtain ⟨a1, a2⟩ := a
  obtain ⟨b1, b2⟩ := b
  obtain ⟨c1, c2⟩ := c
  unfold aggP tw
  unfold Nr at ha hb hc
  dsimp only at *
  obtain ⟨p1, p2⟩ := mul_bound (a := b1 - a1) (b := c2 - a2) (n := 4194304) (m := 4194304) (by omega) (by omega) (by omega) (by omega) (by omega)
  obtain ⟨q1, q2⟩ := mul_bound (a := b2 - a2) (b := c1 - a1) (n := 4194304) (m := 4194304) (by omega) (by omega) (by omega) (by omega) (by omega)
  go_enter Try.func64, Try.ntmps64
  go_wp2
  go_ret
  exact RetV.int (by simp) (bw3 _ _ _ _)

theorem sg_cases (n : Int) : (0 < n ∧ sg n = 1) ∨ (n < 0 ∧ sg n = -1) ∨ (n = 0 ∧ sg n = 0) := by
  unfold sg
  split
  · left; exact ⟨by assumption, rfl⟩
  · split
    · right; left; exact ⟨by assumption, rfl⟩
    · right; right; exact ⟨by omega, rfl⟩

def allNr (zs : List Pt) : Prop := ∀ j, j < zs.length → Nr zs[j]!
set_option maxHeartbeats 600000 in
theorem geom_near (A : Option Addr) (c : Nat) (zs : List Pt) (w : World) (hmax : zs.length ≤ 1000000000000) (hall : allNr zs) (hR : RdR w A zs) :
    Calls Try.prog 63 #[.slice A zs.length c] w (RetV w (.bool true)) := by
  have HN := Lib.hid hall
  clear hall
  go_enter Try.func63, Try.ntmps63
  go_wp2
  go_loopw [7] (fun i wr => ∃ k : Nat, k ≤ zs.length ∧ i = .int .i64 k ∧ Below w.heap.size w wr) (fun i _ => zs.length - (intOf i).toNat)
  case atStart => exact ⟨0, by omega, rfl, Below.refl _ _⟩
  case round =>
    obtain ⟨k, hk, rfl, hbw⟩ := hrel
    have hbs := hbw.size
    by_cases hlt : k < zs.length
    · obtain ⟨b, off, rfl, hb, h1, h2⟩ := RdR.get hR hbw hlt
      have hz := HN.out k hlt
      rcases hzz : zs[k]! with ⟨x, y⟩
      rw [hzz] at h1 h2 hz
      unfold Nr at hz
      dsimp only at hz h1 h2
      obtain ⟨z1, z2, z3, z4⟩ := hz
      clear hzz
      have hbr : b < wr.heap.size := Nat.lt_of_lt_of_le hb hbs
      have hbl : Below w.heap.size w (wr.alloc (.cells #[.int .i64 x, .int .i64 y] 23)) := hbw.alloc hbs _
      go_wp2
      go_roundw
      case rel => exact ⟨k + 1, by omega, by go_num, hbl⟩
      case measure => simp [intOf]; omega
    · obtain rfl : k = zs.length := by omega
      go_wp2
      go_ret
      exact RetV.bool rfl hbw
end Go.Proofs
/- Points: sides, segments. -/
set_option linter.unusedVariables false
set_option linter.unusedSimpArgs false
namespace Go.Proofs
open Go.RowKit Go.Proofs.Mp

def ptsC (zs : List Pt) : Array Value := (zs.flatMap encR).toArray
theorem lit_rdAt (W : World) (cs : Array Value) (t : TypeId) (zs : List Pt) (h : cs = (zs.flatMap encR).toArray) (n : Nat) (hn : n = W.heap.size) : RdR (W.alloc (.cells cs t)) (some ⟨n, 0, none⟩) zs := by
  subst h; subst hn
  exact Row.rd encR_len (t := t) (heap_alloc_new W _)
theorem allNr3 {a b c : Pt} (ha : Nr a) (hb : Nr b) (hc : Nr c) : allNr [a, b, c] := by
  intro j hj
  match j with
  | 0 => exact ha
  | 1 => exact hb
  | 2 => exact hc
  | j + 3 => simp at hj; omega
theorem allNr4 {a b c d : Pt} (ha : Nr a) (hb : Nr b) (hc : Nr c) (hd : Nr d) : allNr [a, b, c, d] := by
  intro j hj
  match j with
  | 0 => exact ha
  | 1 => exact hb
  | 2 => exact hc
  | 3 => exact hd
  | j + 4 => simp at hj; omega
/-- near of three points that have just been laid down -/
theorem near3 (a b c : Pt) (ha : Nr a) (hb : Nr b) (hc : Nr c) (W : World) (n : Nat) (hn : n = W.heap.size) (cap : Nat) : Calls Try.prog 63 #[.slice (some ⟨n, 0, none⟩) 3 cap] (W.alloc (.cells #[.int .i64 a.1, .int .i64 a.2, .int .i64 b.1, .int .i64 b.2, .int .i64 c.1, .int .i64 c.2] 23)) (RetV (W.alloc (.cells #[.int .i64 a.1, .int .i64 a.2, .int .i64 b.1, .int .i64 b.2, .int .i64 c.1, .int .i64 c.2] 23)) (.bool true)) :=
  geom_near _ cap [a, b, c] _ (by simp) (allNr3 ha hb hc) (lit_rdAt W _ 23 [a, b, c] rfl n hn)
theorem near4 (a b c d : Pt) (ha : Nr a) (hb : Nr b) (hc : Nr c) (hd : Nr d) (W : World) (n : Nat) (hn : n = W.heap.size) (cap : Nat) : Calls Try.prog 63 #[.slice (some ⟨n, 0, none⟩) 4 cap] (W.alloc (.cells #[.int .i64 a.1, .int .i64 a.2, .int .i64 b.1, .int .i64 b.2, .int .i64 c.1, .int .i64 c.2, .int .i64 d.1, .int .i64 d.2] 23)) (RetV (W.alloc (.cells #[.int .i64 a.1, .int .i64 a.2, .int .i64 b.1, .int .i64 b.2, .int .i64 c.1, .int .i64 c.2, .int .i64 d.1, .int .i64 d.2] 23)) (.bool true)) :=
  geom_near _ cap [a, b, c, d] _ (by simp) (allNr4 ha hb hc hd) (lit_rdAt W _ 23 [a, b, c, d] rfl n hn)

theorem Mp.below_lit {X w1 : World} {o : Obj} (hb : Below (X.alloc o).heap.size (X.alloc o) w1) : Below X.heap.size X w1 := (bw1 _ _).trans (hb.mono (bw1 _ _).size)
theorem Mp.below_step {X w1 w2 : World} (h : Below X.heap.size X w1) (h2 : Below w1.heap.size w1 w2) : Below X.heap.size X w2 := h.trans (h2.mono h.size)
theorem alloc2_cells (w : World) (x y : Value) (t : TypeId) : (w.alloc (.cells #[x, y] t)).cell? ⟨w.heap.size, 0, none⟩ = some x ∧ (w.alloc (.cells #[x, y] t)).cell? ⟨w.heap.size, 1, none⟩ = some y := by
  have h := heap_alloc_new w (.cells #[x, y] t)
  constructor
  · rw [cell_of_row _ _ _ _ _ _ h]; rfl
  · rw [cell_of_row _ _ _ _ _ _ h]; rfl
/-- a box of two cells, later -/
theorem box_at (w W : World) (x y : Value) (t : TypeId) (hb : Below (w.heap.size + 1) (w.alloc (.cells #[x, y] t)) W) : W.cell? ⟨w.heap.size, 0, none⟩ = some x ∧ W.cell? ⟨w.heap.size, 1, none⟩ = some y := by
  obtain ⟨h1, h2⟩ := alloc2_cells w x y t
  exact ⟨(hb.cell (p := ⟨w.heap.size, 0, none⟩) (by simp)).trans h1, (hb.cell (p := ⟨w.heap.size, 1, none⟩) (by simp)).trans h2⟩
/-- three boxes, later -/
theorem box3 {w W : World} {a1 a2 b1 b2 c1 c2 : Value} (hb : Below (((w.alloc (.cells #[a1, a2] 23)).alloc (.cells #[b1, b2] 23)).alloc (.cells #[c1, c2] 23)).heap.size (((w.alloc (.cells #[a1, a2] 23)).alloc (.cells #[b1, b2] 23)).alloc (.cells #[c1, c2] 23)) W) :
    W.cell? ⟨w.heap.size, 0, none⟩ = some a1 ∧ W.cell? ⟨w.heap.size, 1, none⟩ = some a2 ∧ W.cell? ⟨w.heap.size + 1, 0, none⟩ = some b1 ∧ W.cell? ⟨w.heap.size + 1, 1, none⟩ = some b2 ∧
    W.cell? ⟨w.heap.size + 1 + 1, 0, none⟩ = some c1 ∧ W.cell? ⟨w.heap.size + 1 + 1, 1, none⟩ = some c2 ∧ Below w.heap.size w W := by
  have e3 := bw1 ((w.alloc (.cells #[a1, a2] 23)).alloc (.cells #[b1, b2] 23)) (.cells #[c1, c2] 23)
  have e2 := bw1 (w.alloc (.cells #[a1, a2] 23)) (.cells #[b1, b2] 23)
  have e1 := bw1 w (.cells #[a1, a2] 23)
  have s1 : (w.alloc (.cells #[a1, a2] 23)).heap.size = w.heap.size + 1 := by simp
  have s2 : ((w.alloc (.cells #[a1, a2] 23)).alloc (.cells #[b1, b2] 23)).heap.size = w.heap.size + 1 + 1 := by simp
  have s3 : (((w.alloc (.cells #[a1, a2] 23)).alloc (.cells #[b1, b2] 23)).alloc (.cells #[c1, c2] 23)).heap.size = w.heap.size + 1 + 1 + 1 := by simp
  rw [s3] at hb
  rw [s2] at e3; rw [s1] at e2
  have h3 := hb
  have h2 := e3.trans (hb.mono (by omega))
  have h1 := e2.trans (h2.mono (by omega))
  have h0 := e1.trans (h1.mono (by omega))
  obtain ⟨k1, k2⟩ := box_at w W _ _ _ h1
  obtain ⟨k3, k4⟩ := box_at (w.alloc (.cells #[a1, a2] 23)) W b1 b2 23 (by rw [s1]; exact h2)
  obtain ⟨k5, k6⟩ := box_at ((w.alloc (.cells #[a1, a2] 23)).alloc (.cells #[b1, b2] 23)) W c1 c2 23 (by rw [s2]; exact h3)
  rw [s1] at k3 k4; rw [s2] at k5 k6
  exact ⟨k1, k2, k3, k4, k5, k6, h0⟩
/-- four boxes, later -/
theorem box4 {w W : World} {a1 a2 b1 b2 c1 c2 d1 d2 : Value} (hb : Below ((((w.alloc (.cells #[a1, a2] 23)).alloc (.cells #[b1, b2] 23)).alloc (.cells #[c1, c2] 23)).alloc (.cells #[d1, d2] 23)).heap.size ((((w.alloc (.cells #[a1, a2] 23)).alloc (.cells #[b1, b2] 23)).alloc (.cells #[c1, c2] 23)).alloc (.cells #[d1, d2] 23)) W) :
    W.cell? ⟨w.heap.size, 0, none⟩ = some a1 ∧ W.cell? ⟨w.heap.size, 1, none⟩ = some a2 ∧ W.cell? ⟨w.heap.size + 1, 0, none⟩ = some b1 ∧ W.cell? ⟨w.heap.size + 1, 1, none⟩ = some b2 ∧
    W.cell? ⟨w.heap.size + 1 + 1, 0, none⟩ = some c1 ∧ W.cell? ⟨w.heap.size + 1 + 1, 1, none⟩ = some c2 ∧ W.cell? ⟨w.heap.size + 1 + 1 + 1, 0, none⟩ = some d1 ∧ W.cell? ⟨w.heap.size + 1 + 1 + 1, 1, none⟩ = some d2 ∧ Below w.heap.size w W := by
  have e4 := below_lit hb
  obtain ⟨k1, k2, k3, k4, k5, k6, h0⟩ := box3 e4
  have s3 : (((w.alloc (.cells #[a1, a2] 23)).alloc (.cells #[b1, b2] 23)).alloc (.cells #[c1, c2] 23)).heap.size = w.heap.size + 1 + 1 + 1 := by simp
  have s4 : ((((w.alloc (.cells #[a1, a2] 23)).alloc (.cells #[b1, b2] 23)).alloc (.cells #[c1, c2] 23)).alloc (.cells #[d1, d2] 23)).heap.size = w.heap.size + 1 + 1 + 1 + 1 := by simp
  obtain ⟨k7, k8⟩ := box_at (((w.alloc (.cells #[a1, a2] 23)).alloc (.cells #[b1, b2] 23)).alloc (.cells #[c1, c2] 23)) W d1 d2 23 (by rw [s3, ← s4]; exact hb)
  rw [s3] at k7 k8
  exact ⟨k1, k2, k3, k4, k5, k6, k7, k8, h0⟩

set_option maxHeartbeats 1000000 in
theorem geom_Twice (a b c : Pt) (w : World) (ha : Nr a) (hb : Nr b) (hc : Nr c) : Calls Try.prog 65 #[aggP a, aggP b, aggP c] w (RetV w (.int .i64 (tw a b c))) := by
  have c0 := Lib.hid fun W => geom_tw a b c W ha hb hc
  have c1 := Lib.hid fun W n hn cap => near3 a b c ha hb hc W n hn cap
  generalize tw a b c = t at *
  clear ha hb hc
  obtain ⟨a1, a2⟩ := a
  obtain ⟨b1, b2⟩ := b
  obtain ⟨c1', c2⟩ := c
  unfold aggP at *
  dsimp only at *
  go_enter Try.func65, Try.ntmps65
  go_wp2_with fail
  refine (c1.out _ _ (by simp) _).mono ?_
  rintro e w1 ⟨rfl, hb1⟩
  have hb2 := below_lit hb1
  clear hb1
  obtain ⟨k1, k2, k3, k4, k5, k6, h0⟩ := box3 hb2
  clear hb2
  go_wp2_with fail
  refine (c0.out _).mono ?_
  rintro e w2 ⟨rfl, hb1⟩
  go_wp2
  go_ret
  exact RetV.int rfl (below_step h0 hb1)

set_option maxHeartbeats 1000000 in
theorem geom_Side (a b c : Pt) (w : World) (ha : Nr a) (hb : Nr b) (hc : Nr c) : Calls Try.prog 40 #[aggP a, aggP b, aggP c] w (RetV w (.int .i64 (sd a b c))) := by
  have c0 := Lib.hid fun W => geom_Twice a b c W ha hb hc
  have hs := sg_cases (tw a b c)
  have he : sd a b c = sg (tw a b c) := rfl
  rw [he]
  clear he
  generalize tw a b c = t at *
  clear ha hb hc
  obtain ⟨a1, a2⟩ := a
  obtain ⟨b1, b2⟩ := b
  obtain ⟨c1', c2⟩ := c
  unfold aggP at *
  dsimp only at *
  rcases hs with ⟨h1, h2⟩ | ⟨h1, h2⟩ | ⟨h1, h2⟩
  all_goals
    rw [h2]
    clear h2
    go_enter Try.func40, Try.ntmps40
    go_wp2_with fail
    refine (c0.out _).mono ?_
    rintro e w1 ⟨rfl, hb1⟩
    obtain ⟨-, -, -, -, -, -, h0⟩ := box3 hb1
    go_wp2
    go_ret
    exact RetV.int rfl h0
end Go.Proofs
/- Points: on a segment; before; what two segments have in common. -/
set_option linter.unusedVariables false
set_option linter.unusedSimpArgs false
namespace Go.Proofs
open Go.RowKit Go.Proofs.Mp

def inBx (a b p : Pt) : Prop := min a.1 b.1 ≤ p.1 ∧ p.1 ≤ max a.1 b.1 ∧ min a.2 b.2 ≤ p.2 ∧ p.2 ≤ max a.2 b.2
instance (a b p : Pt) : Decidable (inBx a b p) := by unfold inBx; infer_instance
def onB (a b p : Pt) : Bool := decide (tw a b p = 0 ∧ inBx a b p)

set_option maxHeartbeats 2000000 in
theorem geom_on (a b c : Pt) (w : World) (ha : Nr a) (hb : Nr b) (hc : Nr c) : Calls Try.prog 39 #[aggP a, aggP b, aggP c] w (RetV w (.bool (onB a b c))) := by
  have c0 := Lib.hid fun W => geom_tw a b c W ha hb hc
  have cn := Lib.hid fun W n hn cap => near3 a b c ha hb hc W n hn cap
  have hr : onB a b c = decide (tw a b c = 0 ∧ inBx a b c) := rfl
  generalize onB a b c = r at *
  generalize tw a b c = t at *
  clear ha hb hc
  obtain ⟨a1, a2⟩ := a
  obtain ⟨b1, b2⟩ := b
  obtain ⟨c1, c2⟩ := c
  unfold aggP at *
  dsimp only at *
  by_cases ht : t = 0
  rotate_left
  · have HR := Lib.hid (hr.trans (decide_eq_false fun h => ht h.1))
    clear hr
    go_enter Try.func39, Try.ntmps39
    go_wp2_with fail
    refine (cn.out _ _ (by simp) _).mono ?_
    rintro e w1 ⟨rfl, hb1⟩
    have hb2 := below_lit hb1
    clear hb1
    obtain ⟨k1, k2, k3, k4, k5, k6, h0⟩ := box3 hb2
    clear hb2
    go_wp2_with fail
    refine (c0.out _).mono ?_
    rintro e w2 ⟨rfl, hb1⟩
    have h1 := below_step h0 hb1
    go_wp2
    go_ret
    exact RetV.bool HR.out.symm h1
  have HB : Hid (r = decide (inBx (a1, a2) (b1, b2) (c1, c2))) := Lib.hid (by rw [hr]; simp [ht])
  clear hr
  subst ht
  by_cases h0 : min a1 b1 ≤ c1
  rotate_left
  · have HR := Lib.hid (HB.out.trans (decide_eq_false (by unfold inBx; dsimp only; omega)))
    clear HB
    go_enter Try.func39, Try.ntmps39
    go_wp2_with fail
    refine (cn.out _ _ (by simp) _).mono ?_
    rintro e w1 ⟨rfl, hb1⟩
    have hb2 := below_lit hb1
    clear hb1
    obtain ⟨k1, k2, k3, k4, k5, k6, h00⟩ := box3 hb2
    go_wp2_with fail
    refine (c0.out _).mono ?_
    rintro e w2 ⟨rfl, hb1⟩
    clear k1 k2 k3 k4 k5 k6 h00
    obtain ⟨k1, k2, k3, k4, k5, k6, h0⟩ := box3 (below_step hb2 hb1)
    clear hb2 hb1
    go_wp2
    go_ret
    exact RetV.bool (by first | exact HR.out.symm | exact (decide_eq_false (by omega)).trans HR.out.symm) h0
  by_cases h1 : c1 ≤ max a1 b1
  rotate_left
  · have HR := Lib.hid (HB.out.trans (decide_eq_false (by unfold inBx; dsimp only; omega)))
    clear HB
    go_enter Try.func39, Try.ntmps39
    go_wp2_with fail
    refine (cn.out _ _ (by simp) _).mono ?_
    rintro e w1 ⟨rfl, hb1⟩
    have hb2 := below_lit hb1
    clear hb1
    obtain ⟨k1, k2, k3, k4, k5, k6, h00⟩ := box3 hb2
    go_wp2_with fail
    refine (c0.out _).mono ?_
    rintro e w2 ⟨rfl, hb1⟩
    clear k1 k2 k3 k4 k5 k6 h00
    obtain ⟨k1, k2, k3, k4, k5, k6, h0⟩ := box3 (below_step hb2 hb1)
    clear hb2 hb1
    go_wp2
    go_ret
    exact RetV.bool (by first | exact HR.out.symm | exact (decide_eq_false (by omega)).trans HR.out.symm) h0
  by_cases h2 : min a2 b2 ≤ c2
  rotate_left
  · have HR := Lib.hid (HB.out.trans (decide_eq_false (by unfold inBx; dsimp only; omega)))
    clear HB
    go_enter Try.func39, Try.ntmps39
    go_wp2_with fail
    refine (cn.out _ _ (by simp) _).mono ?_
    rintro e w1 ⟨rfl, hb1⟩
    have hb2 := below_lit hb1
    clear hb1
    obtain ⟨k1, k2, k3, k4, k5, k6, h00⟩ := box3 hb2
    go_wp2_with fail
    refine (c0.out _).mono ?_
    rintro e w2 ⟨rfl, hb1⟩
    clear k1 k2 k3 k4 k5 k6 h00
    obtain ⟨k1, k2, k3, k4, k5, k6, h0⟩ := box3 (below_step hb2 hb1)
    clear hb2 hb1
    go_wp2
    go_ret
    exact RetV.bool (by first | exact HR.out.symm | exact (decide_eq_false (by omega)).trans HR.out.symm) h0
  by_cases h3 : c2 ≤ max a2 b2
  rotate_left
  · have HR := Lib.hid (HB.out.trans (decide_eq_false (by unfold inBx; dsimp only; omega)))
    clear HB
    go_enter Try.func39, Try.ntmps39
    go_wp2_with fail
    refine (cn.out _ _ (by simp) _).mono ?_
    rintro e w1 ⟨rfl, hb1⟩
    have hb2 := below_lit hb1
    clear hb1
    obtain ⟨k1, k2, k3, k4, k5, k6, h00⟩ := box3 hb2
    go_wp2_with fail
    refine (c0.out _).mono ?_
    rintro e w2 ⟨rfl, hb1⟩
    clear k1 k2 k3 k4 k5 k6 h00
    obtain ⟨k1, k2, k3, k4, k5, k6, h0⟩ := box3 (below_step hb2 hb1)
    clear hb2 hb1
    go_wp2
    go_ret
    exact RetV.bool (by first | exact HR.out.symm | exact (decide_eq_false (by omega)).trans HR.out.symm) h0
  have HR := Lib.hid (HB.out.trans (decide_eq_true (by unfold inBx; dsimp only; omega)))
  clear HB
  go_enter Try.func39, Try.ntmps39
  go_wp2_with fail
  refine (cn.out _ _ (by simp) _).mono ?_
  rintro e w1 ⟨rfl, hb1⟩
  have hb2 := below_lit hb1
  clear hb1
  obtain ⟨k1, k2, k3, k4, k5, k6, h00⟩ := box3 hb2
  go_wp2_with fail
  refine (c0.out _).mono ?_
  rintro e w2 ⟨rfl, hb1⟩
  clear k1 k2 k3 k4 k5 k6 h00
  obtain ⟨k1, k2, k3, k4, k5, k6, h0⟩ := box3 (below_step hb2 hb1)
  clear hb2 hb1
  go_wp2
  go_ret
  exact RetV.bool (by first | exact HR.out.symm | exact (decide_eq_false (by omega)).trans HR.out.symm) h0

def befB (a b : Pt) : Bool := decide (a.1 < b.1 ∨ (a.1 = b.1 ∧ a.2 < b.2))
end Go.Proofs
/- Points: what two segments of one line have in common. -/
set_option linter.unusedVariables false
set_option linter.unusedSimpArgs false
namespace Go.Proofs
open Go.RowKit Go.Proofs.Mp

/-- block n holds a point -/
def BoxP (W : World) (n : Nat) (p : Pt) : Prop := W.heap[n]? = some (.cells #[.int .i64 p.1, .int .i64 p.2] 23 (0, 0))
section
variable {W W' : World} {n m : Nat} {p q : Pt}
theorem BoxP.lt (h : BoxP W n p) : n < W.heap.size := (Array.getElem?_eq_some_iff.1 h).1
theorem BoxP.c0 (h : BoxP W n p) : W.cell? ⟨n, 0, none⟩ = some (.int .i64 p.1) := by rw [cell_of_row _ _ _ _ _ _ h]; rfl
theorem BoxP.c1 (h : BoxP W n p) : W.cell? ⟨n, 1, none⟩ = some (.int .i64 p.2) := by rw [cell_of_row _ _ _ _ _ _ h]; rfl
theorem BoxP.f0 (h : BoxP W n p) : W.frozen? ⟨n, 0, none⟩ = false := frozen_of_row W n 0 _ 23 h
theorem BoxP.f1 (h : BoxP W n p) : W.frozen? ⟨n, 1, none⟩ = false := frozen_of_row W n 1 _ 23 h
theorem BoxP.below (h : BoxP W n p) (hb : Below W.heap.size W W') : BoxP W' n p := (hb.block n h.lt).trans h
theorem BoxP.alloc (h : BoxP W n p) (o : Obj) : BoxP (W.alloc o) n p := h.below (bw1 _ _)
theorem BoxP.new (W : World) (p : Pt) : BoxP (W.alloc (.cells #[.int .i64 p.1, .int .i64 p.2] 23)) W.heap.size p := heap_alloc_new W _
/-- two stores turn the point of block n -/
def setP (W : World) (n : Nat) (q : Pt) : World := (W.setCell ⟨n, 0, none⟩ (.int .i64 q.1)).setCell ⟨n, 1, none⟩ (.int .i64 q.2)
theorem BoxP.set (h : BoxP W n p) (q : Pt) : BoxP (setP W n q) n q := by
  have h1 := heap_setCell_same W n 0 _ 23 (.int .i64 q.1) h
  have h2 := heap_setCell_same (W.setCell ⟨n, 0, none⟩ (.int .i64 q.1)) n 1 _ 23 (.int .i64 q.2) h1
  unfold BoxP setP
  rw [h2]
  rfl
theorem BoxP.other (h : BoxP W n p) (hne : n ≠ m) (q : Pt) : BoxP (setP W m q) n p := by
  unfold BoxP setP
  rw [heap_setCell_other _ _ _ _ (by simpa using hne), heap_setCell_other _ _ _ _ (by simpa using hne)]
  exact h
theorem setP_size : (setP W m q).heap.size = W.heap.size := by simp [setP, World.setCell]
theorem below_setP {w : World} {B : Nat} (h : Below B w W) (hm : B ≤ m) : Below B w (setP W m q) := (h.setCell (p := ⟨m, 0, none⟩) hm _).setCell (p := ⟨m, 1, none⟩) hm _
end
/-- four boxes from n on -/
def Q4 (w W : World) (p q r s : Pt) : Prop := BoxP W w.heap.size p ∧ BoxP W (w.heap.size + 1) q ∧ BoxP W (w.heap.size + 1 + 1) r ∧ BoxP W (w.heap.size + 1 + 1 + 1) s ∧ Below w.heap.size w W
theorem Q4.begin (w : World) (a b c d : Pt) : Q4 w ((((w.alloc (.cells #[.int .i64 a.1, .int .i64 a.2] 23)).alloc (.cells #[.int .i64 b.1, .int .i64 b.2] 23)).alloc (.cells #[.int .i64 c.1, .int .i64 c.2] 23)).alloc (.cells #[.int .i64 d.1, .int .i64 d.2] 23)) a b c d := by
  have s1 : (w.alloc (.cells #[.int .i64 a.1, .int .i64 a.2] 23)).heap.size = w.heap.size + 1 := by simp
  have s2 : ((w.alloc (.cells #[.int .i64 a.1, .int .i64 a.2] 23)).alloc (.cells #[.int .i64 b.1, .int .i64 b.2] 23)).heap.size = w.heap.size + 1 + 1 := by simp
  have s3 : (((w.alloc (.cells #[.int .i64 a.1, .int .i64 a.2] 23)).alloc (.cells #[.int .i64 b.1, .int .i64 b.2] 23)).alloc (.cells #[.int .i64 c.1, .int .i64 c.2] 23)).heap.size = w.heap.size + 1 + 1 + 1 := by simp
  refine ⟨(((BoxP.new w a).alloc _).alloc _).alloc _, ?_, ?_, ?_, ?_⟩
  · rw [← s1]; exact ((BoxP.new _ b).alloc _).alloc _
  · rw [← s2]; exact (BoxP.new _ c).alloc _
  · rw [← s3]; exact BoxP.new _ d
  · exact (bw3 w _ _ _).trans ((bw1 _ _).mono (bw3 w _ _ _).size)
theorem Q4.below {w W W' : World} {p q r s : Pt} (h : Q4 w W p q r s) (hb : Below W.heap.size W W') : Q4 w W' p q r s := by
  obtain ⟨h1, h2, h3, h4, h5⟩ := h
  exact ⟨h1.below hb, h2.below hb, h3.below hb, h4.below hb, below_step' h5 hb⟩
where
  below_step' {w W W' : World} (h : Below w.heap.size w W) (hb : Below W.heap.size W W') : Below w.heap.size w W' := h.trans (hb.mono h.size)
theorem Q4.swap1 {w W : World} {p q r s : Pt} (h : Q4 w W p q r s) : Q4 w (setP (setP W w.heap.size q) (w.heap.size + 1) p) q p r s := by
  obtain ⟨h1, h2, h3, h4, h5⟩ := h
  exact ⟨(h1.set q).other (by omega) p, (h2.other (by omega) q).set p, (h3.other (by omega) _).other (by omega) _, (h4.other (by omega) _).other (by omega) _, below_setP (below_setP h5 (by omega)) (by omega)⟩
theorem Q4.swap2 {w W : World} {p q r s : Pt} (h : Q4 w W p q r s) : Q4 w (setP (setP W (w.heap.size + 1 + 1) s) (w.heap.size + 1 + 1 + 1) r) p q s r := by
  obtain ⟨h1, h2, h3, h4, h5⟩ := h
  exact ⟨(h1.other (by omega) _).other (by omega) _, (h2.other (by omega) _).other (by omega) _, (h3.set s).other (by omega) _, (h4.other (by omega) _).set _, below_setP (below_setP h5 (by omega)) (by omega)⟩
/-- what a walk needs of a box -/
def Cel (W : World) (n : Nat) (p : Pt) : Prop := W.cell? ⟨n, 0, none⟩ = some (.int .i64 p.1) ∧ W.cell? ⟨n, 1, none⟩ = some (.int .i64 p.2) ∧ W.frozen? ⟨n, 0, none⟩ = false ∧ W.frozen? ⟨n, 1, none⟩ = false ∧ n < W.heap.size
theorem BoxP.cel {W : World} {n : Nat} {p : Pt} (h : BoxP W n p) : Cel W n p := ⟨h.c0, h.c1, h.f0, h.f1, h.lt⟩

def sortP (a b : Pt) : Pt × Pt := if befB b a = true then (b, a) else (a, b)
def sharedN (a b c d : Pt) : Int :=
  let x := sortP a b
  let y := sortP c d
  let f := if befB x.1 y.1 = true then y.1 else x.1
  let l := if befB y.2 x.2 = true then y.2 else x.2
  if f = l then 1 else if befB f l = true then 2 else 0

/-- six boxes: the first four from w on, two more -/
def Q6 (w W : World) (n m : Nat) (p q r s f l : Pt) : Prop := BoxP W w.heap.size p ∧ BoxP W (w.heap.size + 1) q ∧ BoxP W (w.heap.size + 1 + 1) r ∧ BoxP W (w.heap.size + 1 + 1 + 1) s ∧ BoxP W n f ∧ BoxP W m l ∧ Below w.heap.size w W ∧ n ≠ m ∧ w.heap.size + 4 ≤ n ∧ w.heap.size + 4 ≤ m
theorem Q6.below {w W W' : World} {n m : Nat} {p q r s f l : Pt} (h : Q6 w W n m p q r s f l) (hb : Below W.heap.size W W') : Q6 w W' n m p q r s f l := by
  obtain ⟨h1, h2, h3, h4, h5, h6, h7, h8⟩ := h
  exact ⟨h1.below hb, h2.below hb, h3.below hb, h4.below hb, h5.below hb, h6.below hb, h7.trans (hb.mono h7.size), h8⟩
theorem Q6.setf {w W : World} {n m : Nat} {p q r s f l : Pt} (h : Q6 w W n m p q r s f l) (x : Pt) : Q6 w (setP W n x) n m p q r s x l := by
  obtain ⟨h1, h2, h3, h4, h5, h6, h7, h8, h9, h10⟩ := h
  exact ⟨h1.other (by omega) _, h2.other (by omega) _, h3.other (by omega) _, h4.other (by omega) _, h5.set _, h6.other (by omega) _, below_setP h7 (by omega), h8, h9, h10⟩
theorem Q6.setl {w W : World} {n m : Nat} {p q r s f l : Pt} (h : Q6 w W n m p q r s f l) (x : Pt) : Q6 w (setP W m x) n m p q r s f x := by
  obtain ⟨h1, h2, h3, h4, h5, h6, h7, h8, h9, h10⟩ := h
  exact ⟨h1.other (by omega) _, h2.other (by omega) _, h3.other (by omega) _, h4.other (by omega) _, h5.other (by omega) _, h6.set _, below_setP h7 (by omega), h8, h9, h10⟩

theorem Q6.mk {w W W' : World} {p q r s f l : Pt} (h : Q4 w W p q r s) (hb : Below W.heap.size W W') (n m : Nat) (hf : BoxP W' n f) (hl : BoxP W' m l) (hne : n ≠ m) (h1 : W.heap.size ≤ n) (h2 : W.heap.size ≤ m) : Q6 w W' n m p q r s f l := by
  have := h.2.2.2.1.lt
  obtain ⟨g1, g2, g3, g4, g5⟩ := h.below hb
  exact ⟨g1, g2, g3, g4, hf, hl, g5, hne, by omega, by omega⟩
theorem Q6.ab {w W : World} {p q r s : Pt} (f l : Pt) (h : Q4 w W p q r s) : Q6 w ((W.alloc (.cells #[.int .i64 f.1, .int .i64 f.2] 23)).alloc (.cells #[.int .i64 l.1, .int .i64 l.2] 23)).drew W.heap.size (W.heap.size + 1) p q r s f l := by
  refine Q6.mk h ?_ _ _ ?_ ?_ (by omega) (by omega) (by omega)
  · exact below_drewN (((Below.refl W.heap.size W).alloc (Nat.le_refl _) _).alloc (by simp) _) 1
  · exact (BoxP.new W f).alloc _
  · have := BoxP.new (W.alloc (.cells #[.int .i64 f.1, .int .i64 f.2] 23)) l
    rw [show (W.alloc (.cells #[.int .i64 f.1, .int .i64 f.2] 23)).heap.size = W.heap.size + 1 by simp] at this
    exact this
theorem Q6.ba {w W : World} {p q r s : Pt} (f l : Pt) (h : Q4 w W p q r s) : Q6 w ((W.alloc (.cells #[.int .i64 l.1, .int .i64 l.2] 23)).alloc (.cells #[.int .i64 f.1, .int .i64 f.2] 23)).drew (W.heap.size + 1) W.heap.size p q r s f l := by
  refine Q6.mk h ?_ _ _ ?_ ?_ (by omega) (by omega) (by omega)
  · exact below_drewN (((Below.refl W.heap.size W).alloc (Nat.le_refl _) _).alloc (by simp) _) 1
  · have := BoxP.new (W.alloc (.cells #[.int .i64 l.1, .int .i64 l.2] 23)) f
    rw [show (W.alloc (.cells #[.int .i64 l.1, .int .i64 l.2] 23)).heap.size = W.heap.size + 1 by simp] at this
    exact this
  · exact (BoxP.new W l).alloc _
theorem Try.eql23 (x1 x2 y1 y2 : Int) (W : World) : (binOp .eql 23 (.agg #[.int .i64 x1, .int .i64 x2]) (.agg #[.int .i64 y1, .int .i64 y2])).run Try.prog W = .ok (.bool (decide ((x1, x2) = (y1, y2)))) W := by
  have u3 := Try.underlying3
  have a3 := Try.isAgg3
  have z3 := Try.sizeOf3
  have hS : Try.prog.underlying 23 = some (.struct (Try.prog.fieldsOf 23)) := by kernel_rfl
  have hp : Try.prog.stoodInHeld 23 = false := by kernel_rfl
  rw [run_eql_struct, show (10000 : Nat) = 9999 + 1 from rfl, run_equalIn_agg W 9999 23 _ _ hS hp]
  simp only [Program.fieldsOf, Try.underlying23]
  go_simp
  by_cases h1 : x1 = y1 <;> by_cases h2 : x2 = y2 <;> simp [h1, h2]
theorem Try.guard23 : Try.prog.eqGuardType Try.prog.depth 23 = false := by kernel_rfl

end Go.Proofs
/- Bounds, and the reference's Bounds. -/
set_option linter.unusedVariables false
set_option linter.unusedSimpArgs false
namespace Go.Proofs
open Go.RowKit Go.Proofs.Mp

/-- a box -/
structure Bo where
  x0 : Int
  y0 : Int
  x1 : Int
  y1 : Int
def aggO (b : Bo) : Value := .agg #[.int .i64 b.x0, .int .i64 b.y0, .int .i64 b.x1, .int .i64 b.y1]
def celO (b : Bo) : List Value := [.int .i64 b.x0, .int .i64 b.y0, .int .i64 b.x1, .int .i64 b.y1]
/-- block g holds a box -/
def RowO (W : World) (g : Nat) (b : Bo) : Prop := W.heap[g]? = some (.cells #[.int .i64 b.x0, .int .i64 b.y0, .int .i64 b.x1, .int .i64 b.y1] 60 (0, 0))
theorem RowO.lt {W : World} {g : Nat} {b : Bo} (h : RowO W g b) : g < W.heap.size := (Array.getElem?_eq_some_iff.1 h).1
theorem RowO.cells {W : World} {g : Nat} {b : Bo} (h : RowO W g b) : W.cell? ⟨g, 0, none⟩ = some (.int .i64 b.x0) ∧ W.cell? ⟨g, 1, none⟩ = some (.int .i64 b.y0) ∧ W.cell? ⟨g, 2, none⟩ = some (.int .i64 b.x1) ∧ W.cell? ⟨g, 3, none⟩ = some (.int .i64 b.y1) := by
  refine ⟨?_, ?_, ?_, ?_⟩ <;> (rw [cell_of_row _ _ _ _ _ _ h]; rfl)
theorem RowO.frozen {W : World} {g : Nat} {b : Bo} (h : RowO W g b) (j : Nat) : W.frozen? ⟨g, j, none⟩ = false := frozen_of_row W g j _ 60 h
theorem RowO.below {W W' : World} {g : Nat} {b : Bo} (h : RowO W g b) (hb : Below W.heap.size W W') : RowO W' g b := (hb.block g h.lt).trans h
theorem RowO.alloc {W : World} {g : Nat} {b : Bo} (h : RowO W g b) (o : Obj) : RowO (W.alloc o) g b := h.below (bw1 _ _)
theorem RowO.drewN {W : World} {g : Nat} {b : Bo} (h : RowO W g b) (n : Nat) : RowO (W.drewN n) g b := h
theorem RowO.s0 {W : World} {g : Nat} {b : Bo} (h : RowO W g b) (z : Int) : RowO (W.setCell ⟨g, 0, none⟩ (.int .i64 z)) g ⟨z, b.y0, b.x1, b.y1⟩ := by
  unfold RowO; rw [heap_setCell_same W g 0 _ 60 _ h]; rfl
theorem RowO.s1 {W : World} {g : Nat} {b : Bo} (h : RowO W g b) (z : Int) : RowO (W.setCell ⟨g, 1, none⟩ (.int .i64 z)) g ⟨b.x0, z, b.x1, b.y1⟩ := by
  unfold RowO; rw [heap_setCell_same W g 1 _ 60 _ h]; rfl
theorem RowO.s2 {W : World} {g : Nat} {b : Bo} (h : RowO W g b) (z : Int) : RowO (W.setCell ⟨g, 2, none⟩ (.int .i64 z)) g ⟨b.x0, b.y0, z, b.y1⟩ := by
  unfold RowO; rw [heap_setCell_same W g 2 _ 60 _ h]; rfl
theorem RowO.s3 {W : World} {g : Nat} {b : Bo} (h : RowO W g b) (z : Int) : RowO (W.setCell ⟨g, 3, none⟩ (.int .i64 z)) g ⟨b.x0, b.y0, b.x1, z⟩ := by
  unfold RowO; rw [heap_setCell_same W g 3 _ 60 _ h]; rfl

end Go.Proofs
/- The reference's Bounds; a box that contains a point; low. -/
set_option linter.unusedVariables false
set_option linter.unusedSimpArgs false
namespace Go.Proofs
open Go.RowKit Go.Proofs.Mp

theorem RowO.other {W : World} {g m : Nat} {b : Bo} (h : RowO W g b) (hne : g ≠ m) (j : Nat) (z : Value) : RowO (W.setCell ⟨m, j, none⟩ z) g b := by
  unfold RowO
  rw [heap_setCell_other _ _ _ _ (by simpa using hne)]
  exact h
theorem two_rows (w : World) (a b : Bo) : RowO ((w.alloc (.cells #[.int .i64 a.x0, .int .i64 a.y0, .int .i64 a.x1, .int .i64 a.y1] 60)).alloc (.cells #[.int .i64 b.x0, .int .i64 b.y0, .int .i64 b.x1, .int .i64 b.y1] 60)).drew w.heap.size a ∧
    RowO ((w.alloc (.cells #[.int .i64 a.x0, .int .i64 a.y0, .int .i64 a.x1, .int .i64 a.y1] 60)).alloc (.cells #[.int .i64 b.x0, .int .i64 b.y0, .int .i64 b.x1, .int .i64 b.y1] 60)).drew (w.heap.size + 1) b ∧
    Below w.heap.size w ((w.alloc (.cells #[.int .i64 a.x0, .int .i64 a.y0, .int .i64 a.x1, .int .i64 a.y1] 60)).alloc (.cells #[.int .i64 b.x0, .int .i64 b.y0, .int .i64 b.x1, .int .i64 b.y1] 60)).drew := by
  refine ⟨?_, ?_, ?_⟩
  · have h : RowO (w.alloc (.cells #[.int .i64 a.x0, .int .i64 a.y0, .int .i64 a.x1, .int .i64 a.y1] 60)) w.heap.size a := heap_alloc_new w _
    exact (h.alloc _).drewN 1
  · have h := heap_alloc_new (w.alloc (.cells #[.int .i64 a.x0, .int .i64 a.y0, .int .i64 a.x1, .int .i64 a.y1] 60)) (.cells #[.int .i64 b.x0, .int .i64 b.y0, .int .i64 b.x1, .int .i64 b.y1] 60)
    rw [show (w.alloc (.cells #[.int .i64 a.x0, .int .i64 a.y0, .int .i64 a.x1, .int .i64 a.y1] 60)).heap.size = w.heap.size + 1 by simp] at h
    exact h
  · exact below_drewN (((Below.refl _ _).alloc (Nat.le_refl _) _).alloc (by simp) _) 1

set_option maxHeartbeats 1000000 in
theorem geom_in (b : Bo) (p : Pt) (w : World) : Calls Try.prog 37 #[aggO b, aggP p] w (RetV w (.bool (decide (b.x0 ≤ p.1 ∧ p.1 ≤ b.x1 ∧ b.y0 ≤ p.2 ∧ p.2 ≤ b.y1)))) := by
  obtain ⟨v0, v1, v2, v3⟩ := b
  obtain ⟨x, y⟩ := p
  unfold aggO aggP
  dsimp only
  have bw2 : ∀ o1 o2, Below w.heap.size w ((w.alloc o1).alloc o2) := fun o1 o2 => ((Below.refl _ _).alloc (Nat.le_refl _) _).alloc (by simp) _
  by_cases h1 : v0 ≤ x
  rotate_left
  · go_enter Try.func37, Try.ntmps37
    go_wp2
    go_ret
    exact RetV.bool (by symm; first | (apply decide_eq_false; omega) | (simp; intros; omega)) (bw2 _ _)
  by_cases h2 : x ≤ v2
  rotate_left
  · go_enter Try.func37, Try.ntmps37
    go_wp2
    go_ret
    exact RetV.bool (by symm; first | (apply decide_eq_false; omega) | (simp; intros; omega)) (bw2 _ _)
  by_cases h3 : v1 ≤ y
  rotate_left
  · go_enter Try.func37, Try.ntmps37
    go_wp2
    go_ret
    exact RetV.bool (by symm; first | (apply decide_eq_false; omega) | (simp; intros; omega)) (bw2 _ _)
  go_enter Try.func37, Try.ntmps37
  go_wp2
  go_ret
  exact RetV.bool (by simp [h1, h2, h3]) (bw2 _ _)

end Go.Proofs
/- Division, rounded down and up. -/
set_option linter.unusedVariables false
set_option linter.unusedSimpArgs false
namespace Go.Proofs
open Go.RowKit Go.Proofs.Mp

def absI (n : Int) : Int := if n < 0 then -n else n
/-- a / b, rounded down -/
def flo (a b : Int) : Int := if 0 < b then a / b else (-a) / (-b)
/-- a / b, rounded up -/
def cei (a b : Int) : Int := -flo (-a) b
theorem flo_spec {a b : Int} (hb : 0 < b) : b * flo a b ≤ a ∧ a < b * (flo a b + 1) := by
  unfold flo
  rw [if_pos hb]
  have h1 := Int.mul_ediv_add_emod a b
  have h2 := Int.emod_nonneg a (by omega : b ≠ 0)
  have h3 := Int.emod_lt_of_pos a hb
  rw [Int.mul_add]
  omega
theorem flo_neg (a b : Int) (hb : b ≠ 0) : flo (-a) (-b) = flo a b := by
  unfold flo
  rcases Int.lt_or_gt_of_ne hb with h | h
  · rw [if_pos (by omega), if_neg (by omega)]
  · rw [if_neg (by omega), if_pos (by omega)]
    simp
theorem flo_unique {a b q : Int} (hb : 0 < b) (h1 : b * q ≤ a) (h2 : a < b * (q + 1)) : flo a b = q := by
  obtain ⟨g1, g2⟩ := flo_spec (a := a) hb
  generalize flo a b = f at *
  have e1 : b * f < b * (q + 1) := Int.lt_of_le_of_lt g1 h2
  have e2 : b * q < b * (f + 1) := Int.lt_of_le_of_lt h1 g2
  have := Int.lt_of_mul_lt_mul_left e1 (Int.le_of_lt hb)
  have := Int.lt_of_mul_lt_mul_left e2 (Int.le_of_lt hb)
  omega
theorem cei_neg (a b : Int) (hb : b ≠ 0) : cei (-a) (-b) = cei a b := by unfold cei; rw [flo_neg _ _ hb]
theorem cei_spec {a b : Int} (hb : 0 < b) : b * (cei a b - 1) < a ∧ a ≤ b * cei a b := by
  obtain ⟨g1, g2⟩ := flo_spec (a := -a) hb
  unfold cei
  generalize flo (-a) b = f at *
  have e1 : b * (-f - 1) = -(b * (f + 1)) := by grind
  have e2 : b * (-f) = -(b * f) := by grind
  rw [e1, e2]
  omega
theorem cei_unique {a b q : Int} (hb : 0 < b) (h1 : b * (q - 1) < a) (h2 : a ≤ b * q) : cei a b = q := by
  unfold cei
  have := flo_unique (a := -a) (q := -q) hb (by have : b * (-q) = -(b * q) := by grind
                                                omega) (by have : b * (-q + 1) = -(b * (q - 1)) := by grind
                                                           omega)
  omega
/-- the absolute values' quotient and remainder, and what they tell of a / b -/
theorem parts_pos {a b : Int} (ha : 0 ≤ a) (hb : 0 < b) : flo a b = a / b ∧ cei a b = (if 0 < a % b then a / b + 1 else a / b) := by
  refine ⟨by unfold flo; rw [if_pos hb], ?_⟩
  have h1 := Int.mul_ediv_add_emod a b
  have h2 := Int.emod_nonneg a (by omega : b ≠ 0)
  have h3 := Int.emod_lt_of_pos a hb
  generalize a / b = q at *
  generalize a % b = r at *
  split
  · refine cei_unique hb ?_ ?_
    · rw [show q + 1 - 1 = q by omega]; omega
    · rw [Int.mul_add]; omega
  · refine cei_unique hb ?_ ?_
    · rw [Int.mul_sub]; omega
    · omega
theorem parts_neg {a b : Int} (ha : a ≤ 0) (hb : 0 < b) : cei a b = -((-a) / b) ∧ flo a b = (if 0 < (-a) % b then -((-a) / b) - 1 else -((-a) / b)) := by
  obtain ⟨h1, h2⟩ := parts_pos (a := -a) (by omega) hb
  constructor
  · unfold cei; rw [h1]
  · have : flo a b = -cei (-a) b := by unfold cei; simp
    rw [this, h2]
    split <;> omega

end Go.Proofs
/- Floor and Ceil of num, and the reference's. -/
set_option linter.unusedVariables false
set_option linter.unusedSimpArgs false
namespace Go.Proofs
open Go.RowKit Go.Proofs.Mp

def minusB (a b : Int) : Bool := decide ((a < 0 ∧ 0 < b) ∨ (0 < a ∧ b < 0))
theorem floR (a b : Int) (hb : b ≠ 0) : flo a b = if minusB a b = true then -(absI a / absI b + (if 0 < absI a % absI b then 1 else 0)) else absI a / absI b := by
  unfold minusB
  simp only [decide_eq_true_eq]
  rcases Int.lt_or_gt_of_ne hb with h | h
  · rw [← flo_neg a b hb]
    have hB : absI b = -b := by unfold absI; rw [if_pos h]
    rw [hB]
    rcases Int.lt_or_le 0 a with g | g
    · rw [if_pos (by omega), show absI a = a by unfold absI; rw [if_neg (by omega)]]
      have := (parts_neg (a := -a) (b := -b) (by omega) (by omega)).2
      rw [Int.neg_neg] at this
      rw [this]
      split <;> omega
    · rw [if_neg (by omega), show absI a = -a by unfold absI; split <;> omega]
      exact (parts_pos (by omega) (by omega)).1
  · have hB : absI b = b := by unfold absI; rw [if_neg (by omega)]
    rw [hB]
    rcases Int.lt_or_le a 0 with g | g
    · rw [if_pos (by omega), show absI a = -a by unfold absI; rw [if_pos g]]
      rw [(parts_neg (by omega) h).2]
      split <;> omega
    · rw [if_neg (by omega), show absI a = a by unfold absI; rw [if_neg (by omega)]]
      exact (parts_pos g h).1
theorem ceiR (a b : Int) (hb : b ≠ 0) : cei a b = if minusB a b = true then -(absI a / absI b) else absI a / absI b + (if 0 < absI a % absI b then 1 else 0) := by
  unfold minusB
  simp only [decide_eq_true_eq]
  rcases Int.lt_or_gt_of_ne hb with h | h
  · rw [← cei_neg a b hb]
    have hB : absI b = -b := by unfold absI; rw [if_pos h]
    rw [hB]
    rcases Int.lt_or_le 0 a with g | g
    · rw [if_pos (by omega), show absI a = a by unfold absI; rw [if_neg (by omega)]]
      have := (parts_neg (a := -a) (b := -b) (by omega) (by omega)).1
      rw [Int.neg_neg] at this
      rw [this]
    · rw [if_neg (by omega), show absI a = -a by unfold absI; split <;> omega]
      rw [(parts_pos (by omega) (by omega)).2]
      split <;> omega
  · have hB : absI b = b := by unfold absI; rw [if_neg (by omega)]
    rw [hB]
    rcases Int.lt_or_le a 0 with g | g
    · rw [if_pos (by omega), show absI a = -a by unfold absI; rw [if_pos g]]
      exact (parts_neg (by omega) h).1
    · rw [if_neg (by omega), show absI a = a by unfold absI; rw [if_neg (by omega)]]
      rw [(parts_pos g h).2]
      split <;> omega

end Go.Proofs
/- Floor and Ceil of num. -/
set_option linter.unusedVariables false
set_option linter.unusedSimpArgs false
namespace Go.Proofs
open Go.RowKit Go.Proofs.Mp

set_option maxRecDepth 100000 in
theorem check_any (a b : Int) (w : World) (h1 : -4611686018427387904 ≤ a) (hb : b ≠ 0) : Calls Try.prog 61 #[.int .i64 a, .int .i64 b] w (RetV w (.int .i64 0)) := by
  have d1 : (b == 0) = false := by simp [hb]
  have d2 : (a == -9223372036854775808) = false := by rw [beq_eq_false_iff_ne]; omega
  go_enter Try.func61, Try.ntmps61
  go_wp2
  go_ret
  exact RetV.int rfl (Below.refl _ _)

/-- Go's quotient and remainder, and the quotients rounded down and up -/
theorem go_div (a b : Int) (hb : b ≠ 0) : (a.tmod b = 0 ∧ flo a b = a.tdiv b ∧ cei a b = a.tdiv b) ∨
    (a.tmod b ≠ 0 ∧ (a.tmod b < 0 ↔ b < 0) ∧ flo a b = a.tdiv b ∧ cei a b = a.tdiv b + 1) ∨ (a.tmod b ≠ 0 ∧ ¬ (a.tmod b < 0 ↔ b < 0) ∧ flo a b = a.tdiv b - 1 ∧ cei a b = a.tdiv b) := by
  have hF := floR a b hb
  have hC := ceiR a b hb
  have key : a.tdiv b = (if minusB a b = true then -(absI a / absI b) else absI a / absI b) ∧ a.tmod b = (if a < 0 then -(absI a % absI b) else absI a % absI b) := by
    unfold minusB
    simp only [decide_eq_true_eq]
    rcases Int.lt_or_gt_of_ne hb with h | h
    · have hB : absI b = -b := by unfold absI; rw [if_pos h]
      rw [hB]
      have e1 : a.tdiv b = -(a.tdiv (-b)) := by rw [Int.tdiv_neg]; omega
      have e2 : a.tmod b = a.tmod (-b) := by rw [Int.tmod_neg]
      rw [e1, e2]
      rcases Int.lt_or_le a 0 with g | g
      · have e3 : a.tdiv (-b) = -((-a).tdiv (-b)) := by rw [Int.neg_tdiv]; omega
        have e4 : a.tmod (-b) = -((-a).tmod (-b)) := by rw [Int.neg_tmod]; omega
        rw [e3, e4, Int.tdiv_eq_ediv_of_nonneg (by omega), Int.tmod_eq_emod_of_nonneg (by omega), if_neg (by omega), if_pos g, show absI a = -a by unfold absI; rw [if_pos g]]
        exact ⟨by omega, rfl⟩
      · rw [Int.tdiv_eq_ediv_of_nonneg g, Int.tmod_eq_emod_of_nonneg g, if_neg (show ¬ a < 0 by omega), show absI a = a by unfold absI; rw [if_neg (by omega)]]
        refine ⟨?_, rfl⟩
        split
        · rfl
        · have : a = 0 := by omega
          subst this
          simp
    · have hB : absI b = b := by unfold absI; rw [if_neg (by omega)]
      rw [hB]
      rcases Int.lt_or_le a 0 with g | g
      · have e3 : a.tdiv b = -((-a).tdiv b) := by rw [Int.neg_tdiv]; omega
        have e4 : a.tmod b = -((-a).tmod b) := by rw [Int.neg_tmod]; omega
        rw [e3, e4, Int.tdiv_eq_ediv_of_nonneg (by omega), Int.tmod_eq_emod_of_nonneg (by omega), if_pos (by omega), if_pos g, show absI a = -a by unfold absI; rw [if_pos g]]
        exact ⟨rfl, rfl⟩
      · rw [Int.tdiv_eq_ediv_of_nonneg g, Int.tmod_eq_emod_of_nonneg g, if_neg (by omega), if_neg (by omega), show absI a = a by unfold absI; rw [if_neg (by omega)]]
        exact ⟨rfl, rfl⟩
  have hB1 : 1 ≤ absI b := by unfold absI; split <;> omega
  have hr := Int.emod_nonneg (absI a) (show absI b ≠ 0 by omega)
  have hA : a = 0 → absI a % absI b = 0 := by intro h; subst h; simp [absI]
  have HM : minusB a b = true ↔ (a < 0 ∧ 0 < b) ∨ (0 < a ∧ b < 0) := by unfold minusB; rw [decide_eq_true_eq]
  obtain ⟨k1, k2⟩ := key
  rw [k1, k2, hF, hC]
  clear k1 k2 hF hC
  generalize absI a / absI b = q at *
  generalize absI a % absI b = r at *
  clear hB1
  by_cases hm : minusB a b = true
  · have hm' := HM.1 hm
    simp only [if_pos hm]
    by_cases hr0 : r = 0
    · subst hr0
      left
      simp
    · have : 0 < r := by omega
      simp only [if_pos this]
      right; right
      refine ⟨?_, ?_, by first | trivial | omega, by first | trivial | omega⟩
      · split <;> omega
      · split <;> omega
  · have hm' : ¬ ((a < 0 ∧ 0 < b) ∨ (0 < a ∧ b < 0)) := fun h => hm (HM.2 h)
    simp only [if_neg hm]
    by_cases hr0 : r = 0
    · subst hr0
      left
      simp
    · have h0 : 0 < r := by omega
      have ha : a ≠ 0 := fun h => hr0 (hA h)
      simp only [if_pos h0]
      right; left
      refine ⟨?_, ?_, by first | trivial | omega, by first | trivial | omega⟩
      · split <;> omega
      · split <;> omega
theorem quo_bound (a b : Int) (hb : b ≠ 0) (h1 : -4611686018427387904 ≤ a) (h2 : a ≤ 4611686018427387904) : -4611686018427387904 ≤ a.tdiv b ∧ a.tdiv b ≤ 4611686018427387904 := by
  have := Int.natAbs_tdiv_le_natAbs a b
  omega

set_option maxRecDepth 100000 in
set_option maxHeartbeats 1000000 in
theorem num_floor (a b : Int) (w : World) (h1 : -4611686018427387904 ≤ a) (h2 : a ≤ 4611686018427387904) (hb : b ≠ 0) :
    Calls Try.prog 35 #[.int .i64 a, .int .i64 b] w (RetV w (.tuple #[.int .i64 (flo a b), .int .i64 0])) := by
  have cC := Lib.hid fun W => check_any a b W h1 hb
  have hg := go_div a b hb
  have hqb := quo_bound a b hb h1 h2
  have hb0 : ¬ b = 0 := hb
  have hbb : (b == 0) = false := by simp [hb]
  have hw : IntKind.i64.wrap (a.tdiv b) = a.tdiv b := IntWalk.i64_in _ (by omega)
  obtain ⟨q, hq⟩ : ∃ q, a.tdiv b = q := ⟨_, rfl⟩
  obtain ⟨r, hr⟩ : ∃ r, a.tmod b = r := ⟨_, rfl⟩
  rw [hq] at hw hg hqb
  rw [hr] at hg
  generalize flo a b = f at *
  generalize cei a b = c at *
  have HB := Lib.hid hb
  clear hb
  rcases hg with ⟨e1, e2, e3⟩ | ⟨e1, e4, e2, e3⟩ | ⟨e1, e4, e2, e3⟩
  · have d1 : (r != 0) = false := by simp [e1]
    clear e1
    have HV := Lib.hid (show f = q from e2)
    clear e2 e3
    go_enter Try.func35, Try.ntmps35
    go_wp2_with fail
    refine (cC.out _).mono ?_
    rintro e w1 ⟨rfl, hb1⟩
    go_wp2
    refine bodyPost_ret (v := .tuple #[.int .i64 (q), .int .i64 0]) (by simp [results, Try.results35, go_sem]) rfl ?_
    exact ⟨by rw [HV.out], hb1⟩
  · have d1 : (r != 0) = true := by simp [e1]
    by_cases g : b < 0
    · have d2 : decide (b < 0) = true := decide_eq_true g
      have d3 : decide (r < 0) = true := decide_eq_true (by omega)
      clear e1 e4 g
      have HV := Lib.hid (show f = q from e2)
      clear e2 e3
      go_enter Try.func35, Try.ntmps35
      go_wp2_with fail
      refine (cC.out _).mono ?_
      rintro e w1 ⟨rfl, hb1⟩
      go_wp2
      refine bodyPost_ret (v := .tuple #[.int .i64 (q), .int .i64 0]) (by simp [results, Try.results35, go_sem]) rfl ?_
      exact ⟨by rw [HV.out], hb1⟩
    · have d2 : decide (b < 0) = false := decide_eq_false g
      have d3 : decide (r < 0) = false := decide_eq_false (by omega)
      clear e1 e4 g
      have HV := Lib.hid (show f = q from e2)
      clear e2 e3
      go_enter Try.func35, Try.ntmps35
      go_wp2_with fail
      refine (cC.out _).mono ?_
      rintro e w1 ⟨rfl, hb1⟩
      go_wp2
      refine bodyPost_ret (v := .tuple #[.int .i64 (q), .int .i64 0]) (by simp [results, Try.results35, go_sem]) rfl ?_
      exact ⟨by rw [HV.out], hb1⟩
  · have d1 : (r != 0) = true := by simp [e1]
    by_cases g : b < 0
    · have d2 : decide (b < 0) = true := decide_eq_true g
      have d3 : decide (r < 0) = false := decide_eq_false (by omega)
      clear e1 e4 g
      have HV := Lib.hid (show f = q - 1 from e2)
      clear e2 e3
      go_enter Try.func35, Try.ntmps35
      go_wp2_with fail
      refine (cC.out _).mono ?_
      rintro e w1 ⟨rfl, hb1⟩
      go_wp2
      refine bodyPost_ret (v := .tuple #[.int .i64 (q - 1), .int .i64 0]) (by simp [results, Try.results35, go_sem]) rfl ?_
      exact ⟨by rw [HV.out], hb1⟩
    · have d2 : decide (b < 0) = false := decide_eq_false g
      have d3 : decide (r < 0) = true := decide_eq_true (by omega)
      clear e1 e4 g
      have HV := Lib.hid (show f = q - 1 from e2)
      clear e2 e3
      go_enter Try.func35, Try.ntmps35
      go_wp2_with fail
      refine (cC.out _).mono ?_
      rintro e w1 ⟨rfl, hb1⟩
      go_wp2
      refine bodyPost_ret (v := .tuple #[.int .i64 (q - 1), .int .i64 0]) (by simp [results, Try.results35, go_sem]) rfl ?_
      exact ⟨by rw [HV.out], hb1⟩

end Go.Proofs
/- A grid of heights; its check, the program's. -/
set_option linter.unusedVariables false
set_option linter.unusedSimpArgs false
namespace Go.Proofs
open Go.RowKit Go.Proofs.Mp

/-- a grid: where it begins, its columns and rows, its step, where its heights lie, and what they are -/
structure Ht where
  x : Int
  y : Int
  w : Int
  h : Int
  st : Int
  a : Option Addr
  c : Nat
  v : List Int
deriving Inhabited
def celH (t : Ht) : Array Value := #[.int .i64 t.x, .int .i64 t.y, .int .i64 t.w, .int .i64 t.h, .int .i64 t.st, .slice t.a t.v.length t.c]
def aggH (t : Ht) : Value := .agg (celH t)
def RowH (W : World) (g : Nat) (t : Ht) : Prop := W.heap[g]? = some (.cells (celH t) 26 (0, 0))
section
variable {W W' : World} {g : Nat} {t : Ht}
theorem RowH.lt (h : RowH W g t) : g < W.heap.size := (Array.getElem?_eq_some_iff.1 h).1
theorem RowH.cells (h : RowH W g t) : W.cell? ⟨g, 0, none⟩ = some (.int .i64 t.x) ∧ W.cell? ⟨g, 1, none⟩ = some (.int .i64 t.y) ∧ W.cell? ⟨g, 2, none⟩ = some (.int .i64 t.w) ∧ W.cell? ⟨g, 3, none⟩ = some (.int .i64 t.h) ∧ W.cell? ⟨g, 4, none⟩ = some (.int .i64 t.st) ∧ W.cell? ⟨g, 5, none⟩ = some (.slice t.a t.v.length t.c) := by
  refine ⟨?_, ?_, ?_, ?_, ?_, ?_⟩ <;> (rw [cell_of_row _ _ _ _ _ _ h]; rfl)
theorem RowH.below (h : RowH W g t) (hb : Below W.heap.size W W') : RowH W' g t := (hb.block g h.lt).trans h
theorem RowH.new (W : World) (t : Ht) : RowH (W.alloc (.cells (celH t) 26)) W.heap.size t := heap_alloc_new W _
end
def inB3 (n lo hi : Int) : Bool := decide (lo ≤ n) && decide (n ≤ hi)
def farX (t : Ht) : Int := t.x + (t.w - 1) * t.st
def farY (t : Ht) : Int := t.y + (t.h - 1) * t.st
def hgtB (n : Int) : Bool := inB3 n (-10000) 10000
/-- the error of a grid -/
def chkH (t : Ht) : Int :=
  if inB3 t.x (-1048576) 1048576 && inB3 t.y (-1048576) 1048576 && inB3 t.w 2 64 && inB3 t.h 2 64 && inB3 t.st 1 1048576 then
    (if inB3 (farX t) (-1048576) 1048576 && inB3 (farY t) (-1048576) 1048576 then (if (t.v.length : Int) = t.w * t.h then (if t.v.all hgtB then 0 else 2) else 1) else 2)
  else 2

set_option maxHeartbeats 400000 in
theorem ter_from (n lo hi : Int) (w : World) : Calls Try.prog 50 #[.int .i64 n, .int .i64 lo, .int .i64 hi] w (RetV w (.bool (inB3 n lo hi))) := by
  by_cases h1 : lo ≤ n
  · by_cases h2 : n ≤ hi
    all_goals
      go_enter Try.func50, Try.ntmps50
      go_wp2
      go_ret
      exact RetV.bool (by simp [inB3, h1, h2]) (Below.refl _ _)
  · go_enter Try.func50, Try.ntmps50
    go_wp2
    go_ret
    exact RetV.bool (by simp [inB3]; intros; omega) (Below.refl _ _)

set_option maxHeartbeats 400000 in
theorem ter_valid (x y : Int) (g : Nat) (w : World) (hg : g < w.heap.size) (hc : w.cell? ⟨g, 0, none⟩ = some (.func (.func 50) #[] #[])) :
    Calls Try.prog 51 #[.int .i64 x, .int .i64 y, .pointer (some ⟨g, 0, none⟩)] w (RetV w (.bool (inB3 x (-1048576) 1048576 && inB3 y (-1048576) 1048576))) := by
  have c1 := Lib.hid fun W => ter_from x (-1048576) 1048576 W
  have c2 := Lib.hid fun W => ter_from y (-1048576) 1048576 W
  generalize inB3 x (-1048576) 1048576 = p at *
  generalize inB3 y (-1048576) 1048576 = q at *
  go_enter Try.func51, Try.ntmps51
  go_wp2_with fail
  refine (c1.out _).mono ?_
  rintro e w1 ⟨rfl, hb1⟩
  have hc1 := (hb1.cell (p := ⟨g, 0, none⟩) hg).trans hc
  have HB1 := Lib.hid hb1
  clear hc hb1
  cases p
  · go_wp2
    go_ret
    exact RetV.bool rfl HB1.out
  · go_wp2_with fail
    refine (c2.out _).mono ?_
    rintro e w2 ⟨rfl, hb2⟩
    have HB2 := Lib.hid (HB1.out.trans (hb2.mono HB1.out.size))
    clear hc1 hb2
    go_wp2
    go_ret
    exact RetV.bool (by cases q <;> rfl) HB2.out

theorem all_hgts {v : List Int} (h : ∀ j, j < v.length → hgtB v[j]! = true) : v.all hgtB = true := by
  rw [List.all_eq_true]
  intro x hx
  obtain ⟨j, hj, rfl⟩ := List.mem_iff_getElem.1 hx
  have := h j hj
  rwa [getElem!_pos v j hj] at this
theorem no_hgts {v : List Int} {j : Nat} (hj : j < v.length) (h : hgtB v[j]! = false) : v.all hgtB = false := by
  rw [List.all_eq_false]
  exact ⟨v[j]!, by rw [getElem!_pos v j hj]; exact List.getElem_mem hj, by rw [h]; simp⟩
theorem inB3_iff {n lo hi : Int} (h : inB3 n lo hi = true) : lo ≤ n ∧ n ≤ hi := by unfold inB3 at h; simpa using h
theorem grid_mul {w st : Int} (h1 : 2 ≤ w) (h2 : w ≤ 64) (h3 : 1 ≤ st) (h4 : st ≤ 1048576) : 0 ≤ (w - 1) * st ∧ (w - 1) * st ≤ 66060288 := by
  have e1 : (0 : Int) * 0 ≤ (w - 1) * st := Int.mul_le_mul (by omega) (by omega) (by omega) (by omega)
  have e2 : (w - 1) * st ≤ 63 * 1048576 := Int.mul_le_mul (by omega) h4 (by omega) (by omega)
  omega
theorem grid_mul2 {w h : Int} (h1 : 2 ≤ w) (h2 : w ≤ 64) (h3 : 2 ≤ h) (h4 : h ≤ 64) : 4 ≤ w * h ∧ w * h ≤ 4096 := by
  have e1 : (2 : Int) * 2 ≤ w * h := Int.mul_le_mul h1 h3 (by omega) (by omega)
  have e2 : w * h ≤ 64 * 64 := Int.mul_le_mul h2 h4 (by omega) (by omega)
  omega

set_option maxRecDepth 100000 in
set_option maxHeartbeats 8000000 in
theorem ter_check (t : Ht) (w : World) (hmax : t.v.length ≤ 1000000000000) (hR : RdI w t.a t.v) : Calls Try.prog 27 #[aggH t] w (RetV w (.int .i64 (chkH t))) := by
  have hmf : ∀ (fn : Fn) (first cap : Array Value) (w : World), (Instr.makeFunc fn first cap).run Try.prog w = .ok (.func fn first cap) w := fun _ _ _ _ => rfl
  have HC := Lib.hid (show chkH t = if inB3 t.x (-1048576) 1048576 && inB3 t.y (-1048576) 1048576 && inB3 t.w 2 64 && inB3 t.h 2 64 && inB3 t.st 1 1048576 then (if inB3 (farX t) (-1048576) 1048576 && inB3 (farY t) (-1048576) 1048576 then (if (t.v.length : Int) = t.w * t.h then (if t.v.all hgtB then 0 else 2) else 1) else 2) else 2 from rfl)
  generalize chkH t = r at *
  obtain ⟨x, y, tw, th, st, A, c, v⟩ := t
  unfold farX farY at HC
  dsimp only at *
  have hb0 : Below w.heap.size w ((w.alloc (.cells #[.int .i64 x, .int .i64 y, .int .i64 tw, .int .i64 th, .int .i64 st, .slice A v.length c] 26)).alloc (.cells #[.func (.func 50) #[] #[]] 71)) := ((Below.refl _ _).alloc (Nat.le_refl _) _).alloc (by simp) _
  have HB0 := Lib.hid hb0
  have HW := Lib.hid fun (W : World) (hW : Below ((w.alloc (.cells #[.int .i64 x, .int .i64 y, .int .i64 tw, .int .i64 th, .int .i64 st, .slice A v.length c] 26)).alloc (.cells #[.func (.func 50) #[] #[]] 71)).heap.size ((w.alloc (.cells #[.int .i64 x, .int .i64 y, .int .i64 tw, .int .i64 th, .int .i64 st, .slice A v.length c] 26)).alloc (.cells #[.func (.func 50) #[] #[]] 71)) W) =>
    (show RowH W w.heap.size ⟨x, y, tw, th, st, A, c, v⟩ ∧ W.cell? ⟨w.heap.size + 1, 0, none⟩ = some (.func (.func 50) #[] #[]) ∧ w.heap.size + 1 < W.heap.size from by
      have h1 : RowH (w.alloc (.cells #[.int .i64 x, .int .i64 y, .int .i64 tw, .int .i64 th, .int .i64 st, .slice A v.length c] 26)) w.heap.size ⟨x, y, tw, th, st, A, c, v⟩ := RowH.new w ⟨x, y, tw, th, st, A, c, v⟩
      have hs := hW.size
      simp at hs
      refine ⟨(h1.below (bw1 _ _)).below hW, (hW.cell (p := ⟨w.heap.size + 1, 0, none⟩) (by simp)).trans (by simp), by omega⟩)
  have cV := Lib.hid fun (W : World) (hW : Below ((w.alloc (.cells #[.int .i64 x, .int .i64 y, .int .i64 tw, .int .i64 th, .int .i64 st, .slice A v.length c] 26)).alloc (.cells #[.func (.func 50) #[] #[]] 71)).heap.size ((w.alloc (.cells #[.int .i64 x, .int .i64 y, .int .i64 tw, .int .i64 th, .int .i64 st, .slice A v.length c] 26)).alloc (.cells #[.func (.func 50) #[] #[]] 71)) W) => ter_valid x y (w.heap.size + 1) W (HW.out W hW).2.2 (HW.out W hW).2.1
  have c4 := Lib.hid fun (W : World) (hW : Below ((w.alloc (.cells #[.int .i64 x, .int .i64 y, .int .i64 tw, .int .i64 th, .int .i64 st, .slice A v.length c] 26)).alloc (.cells #[.func (.func 50) #[] #[]] 71)).heap.size ((w.alloc (.cells #[.int .i64 x, .int .i64 y, .int .i64 tw, .int .i64 th, .int .i64 st, .slice A v.length c] 26)).alloc (.cells #[.func (.func 50) #[] #[]] 71)) W) => ter_valid (x + (tw - 1) * st) (y + (th - 1) * st) (w.heap.size + 1) W (HW.out W hW).2.2 (HW.out W hW).2.1
  have c1 := Lib.hid fun W => ter_from tw 2 64 W
  have c2 := Lib.hid fun W => ter_from th 2 64 W
  have c3 := Lib.hid fun W => ter_from st 1 1048576 W
  have H0 := Lib.hid fun (h : (inB3 x (-1048576) 1048576 && inB3 y (-1048576) 1048576) = true) => (show -1048576 ≤ x ∧ x ≤ 1048576 ∧ -1048576 ≤ y ∧ y ≤ 1048576 from by
    rw [Bool.and_eq_true] at h
    exact ⟨(inB3_iff h.1).1, (inB3_iff h.1).2, (inB3_iff h.2).1, (inB3_iff h.2).2⟩)
  have H1 := Lib.hid fun h => @inB3_iff tw 2 64 h
  have H2 := Lib.hid fun h => @inB3_iff th 2 64 h
  have H3 := Lib.hid fun h => @inB3_iff st 1 1048576 h
  generalize (inB3 x (-1048576) 1048576 && inB3 y (-1048576) 1048576) = p0 at *
  generalize (inB3 (x + (tw - 1) * st) (-1048576) 1048576 && inB3 (y + (th - 1) * st) (-1048576) 1048576) = p4 at *
  generalize inB3 tw 2 64 = p1 at *
  generalize inB3 th 2 64 = p2 at *
  generalize inB3 st 1 1048576 = p3 at *
  unfold aggH celH
  dsimp only
  go_enter Try.func27, Try.ntmps27
  go_upto_region 3 with fail
  clear hb0
  generalize ((w.alloc (.cells #[.int .i64 x, .int .i64 y, .int .i64 tw, .int .i64 th, .int .i64 st, .slice A v.length c] 26)).alloc (.cells #[.func (.func 50) #[] #[]] 71)) = w0 at *
  have k : Below w0.heap.size w0 w0 := Below.refl _ _
  obtain ⟨hro, d6, d7⟩ := HW.out _ k
  obtain ⟨d0, d1, d2, d3, d4, d5⟩ := hro.cells
  dsimp only at d0 d1 d2 d3 d4 d5
  clear hro
  cases p0
  · skip
    go_wp2_with fail
    refine (cV.out _ k).mono ?_
    rintro e w1 ⟨rfl, hb⟩
    replace k := k.trans (hb.mono k.size)
    clear hb d0 d1 d2 d3 d4 d5 d6 d7
    obtain ⟨hro, d6, d7⟩ := HW.out _ k
    obtain ⟨d0, d1, d2, d3, d4, d5⟩ := hro.cells
    dsimp only at d0 d1 d2 d3 d4 d5
    clear hro
    have HK := Lib.hid (HB0.out.trans (k.mono HB0.out.size))
    clear k d0 d1 d2 d3 d4 d5 d6 d7
    go_wp2
    go_ret
    exact RetV.int (by rw [HC.out] <;> rfl) HK.out
  cases p1
  · skip
    go_wp2_with fail
    refine (cV.out _ k).mono ?_
    rintro e w2 ⟨rfl, hb⟩
    replace k := k.trans (hb.mono k.size)
    clear hb d0 d1 d2 d3 d4 d5 d6 d7
    obtain ⟨hro, d6, d7⟩ := HW.out _ k
    obtain ⟨d0, d1, d2, d3, d4, d5⟩ := hro.cells
    dsimp only at d0 d1 d2 d3 d4 d5
    clear hro
    go_wp2_with fail
    refine (c1.out _).mono ?_
    rintro e w3 ⟨rfl, hb⟩
    replace k := k.trans (hb.mono k.size)
    clear hb d0 d1 d2 d3 d4 d5 d6 d7
    obtain ⟨hro, d6, d7⟩ := HW.out _ k
    obtain ⟨d0, d1, d2, d3, d4, d5⟩ := hro.cells
    dsimp only at d0 d1 d2 d3 d4 d5
    clear hro
    have HK := Lib.hid (HB0.out.trans (k.mono HB0.out.size))
    clear k d0 d1 d2 d3 d4 d5 d6 d7
    go_wp2
    go_ret
    exact RetV.int (by rw [HC.out] <;> rfl) HK.out
  cases p2
  · skip
    go_wp2_with fail
    refine (cV.out _ k).mono ?_
    rintro e w4 ⟨rfl, hb⟩
    replace k := k.trans (hb.mono k.size)
    clear hb d0 d1 d2 d3 d4 d5 d6 d7
    obtain ⟨hro, d6, d7⟩ := HW.out _ k
    obtain ⟨d0, d1, d2, d3, d4, d5⟩ := hro.cells
    dsimp only at d0 d1 d2 d3 d4 d5
    clear hro
    go_wp2_with fail
    refine (c1.out _).mono ?_
    rintro e w5 ⟨rfl, hb⟩
    replace k := k.trans (hb.mono k.size)
    clear hb d0 d1 d2 d3 d4 d5 d6 d7
    obtain ⟨hro, d6, d7⟩ := HW.out _ k
    obtain ⟨d0, d1, d2, d3, d4, d5⟩ := hro.cells
    dsimp only at d0 d1 d2 d3 d4 d5
    clear hro
    go_wp2_with fail
    refine (c2.out _).mono ?_
    rintro e w6 ⟨rfl, hb⟩
    replace k := k.trans (hb.mono k.size)
    clear hb d0 d1 d2 d3 d4 d5 d6 d7
    obtain ⟨hro, d6, d7⟩ := HW.out _ k
    obtain ⟨d0, d1, d2, d3, d4, d5⟩ := hro.cells
    dsimp only at d0 d1 d2 d3 d4 d5
    clear hro
    have HK := Lib.hid (HB0.out.trans (k.mono HB0.out.size))
    clear k d0 d1 d2 d3 d4 d5 d6 d7
    go_wp2
    go_ret
    exact RetV.int (by rw [HC.out] <;> rfl) HK.out
  cases p3
  · skip
    go_wp2_with fail
    refine (cV.out _ k).mono ?_
    rintro e w7 ⟨rfl, hb⟩
    replace k := k.trans (hb.mono k.size)
    clear hb d0 d1 d2 d3 d4 d5 d6 d7
    obtain ⟨hro, d6, d7⟩ := HW.out _ k
    obtain ⟨d0, d1, d2, d3, d4, d5⟩ := hro.cells
    dsimp only at d0 d1 d2 d3 d4 d5
    clear hro
    go_wp2_with fail
    refine (c1.out _).mono ?_
    rintro e w8 ⟨rfl, hb⟩
    replace k := k.trans (hb.mono k.size)
    clear hb d0 d1 d2 d3 d4 d5 d6 d7
    obtain ⟨hro, d6, d7⟩ := HW.out _ k
    obtain ⟨d0, d1, d2, d3, d4, d5⟩ := hro.cells
    dsimp only at d0 d1 d2 d3 d4 d5
    clear hro
    go_wp2_with fail
    refine (c2.out _).mono ?_
    rintro e w9 ⟨rfl, hb⟩
    replace k := k.trans (hb.mono k.size)
    clear hb d0 d1 d2 d3 d4 d5 d6 d7
    obtain ⟨hro, d6, d7⟩ := HW.out _ k
    obtain ⟨d0, d1, d2, d3, d4, d5⟩ := hro.cells
    dsimp only at d0 d1 d2 d3 d4 d5
    clear hro
    go_wp2_with fail
    refine (c3.out _).mono ?_
    rintro e w10 ⟨rfl, hb⟩
    replace k := k.trans (hb.mono k.size)
    clear hb d0 d1 d2 d3 d4 d5 d6 d7
    obtain ⟨hro, d6, d7⟩ := HW.out _ k
    obtain ⟨d0, d1, d2, d3, d4, d5⟩ := hro.cells
    dsimp only at d0 d1 d2 d3 d4 d5
    clear hro
    have HK := Lib.hid (HB0.out.trans (k.mono HB0.out.size))
    clear k d0 d1 d2 d3 d4 d5 d6 d7
    go_wp2
    go_ret
    exact RetV.int (by rw [HC.out] <;> rfl) HK.out
  obtain ⟨i1, i2⟩ := H1.out rfl
  obtain ⟨i3, i4⟩ := H2.out rfl
  obtain ⟨i5, i6⟩ := H3.out rfl
  obtain ⟨i7, i8, i9, i10⟩ := H0.out rfl
  obtain ⟨m1, m2⟩ := grid_mul i1 i2 i5 i6
  obtain ⟨m3, m4⟩ := grid_mul i3 i4 i5 i6
  obtain ⟨m5, m6⟩ := grid_mul2 i1 i2 i3 i4
  go_wp2_with fail
  refine (cV.out _ k).mono ?_
  rintro e w11 ⟨rfl, hb⟩
  replace k := k.trans (hb.mono k.size)
  clear hb d0 d1 d2 d3 d4 d5 d6 d7
  obtain ⟨hro, d6, d7⟩ := HW.out _ k
  obtain ⟨d0, d1, d2, d3, d4, d5⟩ := hro.cells
  dsimp only at d0 d1 d2 d3 d4 d5
  clear hro
  go_wp2_with fail
  refine (c1.out _).mono ?_
  rintro e w12 ⟨rfl, hb⟩
  replace k := k.trans (hb.mono k.size)
  clear hb d0 d1 d2 d3 d4 d5 d6 d7
  obtain ⟨hro, d6, d7⟩ := HW.out _ k
  obtain ⟨d0, d1, d2, d3, d4, d5⟩ := hro.cells
  dsimp only at d0 d1 d2 d3 d4 d5
  clear hro
  go_wp2_with fail
  refine (c2.out _).mono ?_
  rintro e w13 ⟨rfl, hb⟩
  replace k := k.trans (hb.mono k.size)
  clear hb d0 d1 d2 d3 d4 d5 d6 d7
  obtain ⟨hro, d6, d7⟩ := HW.out _ k
  obtain ⟨d0, d1, d2, d3, d4, d5⟩ := hro.cells
  dsimp only at d0 d1 d2 d3 d4 d5
  clear hro
  go_wp2_with fail
  refine (c3.out _).mono ?_
  rintro e w14 ⟨rfl, hb⟩
  replace k := k.trans (hb.mono k.size)
  clear hb d0 d1 d2 d3 d4 d5 d6 d7
  obtain ⟨hro, d6, d7⟩ := HW.out _ k
  obtain ⟨d0, d1, d2, d3, d4, d5⟩ := hro.cells
  dsimp only at d0 d1 d2 d3 d4 d5
  clear hro
  go_wp2_with fail
  refine (c4.out _ k).mono ?_
  rintro e w15 ⟨rfl, hb⟩
  replace k := k.trans (hb.mono k.size)
  clear hb d0 d1 d2 d3 d4 d5 d6 d7
  obtain ⟨hro, d6, d7⟩ := HW.out _ k
  obtain ⟨d0, d1, d2, d3, d4, d5⟩ := hro.cells
  dsimp only at d0 d1 d2 d3 d4 d5
  clear hro
  cases p4
  · skip
    have HK := Lib.hid (HB0.out.trans (k.mono HB0.out.size))
    clear k d0 d1 d2 d3 d4 d5 d6 d7
    go_wp2
    go_ret
    exact RetV.int (by rw [HC.out] <;> rfl) HK.out
  by_cases hl : (v.length : Int) = tw * th
  rotate_left
  · have hl2 : ((v.length : Int) != tw * th) = true := by rw [bne_iff_ne]; exact hl
    have HC2 := Lib.hid (HC.out.trans (show _ = (1 : Int) by simp [hl]))
    clear HC hl
    have HC := HC2
    have HK := Lib.hid (HB0.out.trans (k.mono HB0.out.size))
    clear k
    go_wp2
    go_ret
    exact RetV.int (by rw [HC.out] <;> rfl) HK.out
  have hl2 : ((v.length : Int) != tw * th) = false := by rw [bne_eq_false_iff_eq]; exact hl
  have HC2 := Lib.hid (HC.out.trans (show _ = if v.all hgtB then (0 : Int) else 2 by rw [if_pos hl] <;> rfl))
  have HL := Lib.hid hl
  clear HC hl
  go_upto_block 1 with fail
  clear HL hl2 i1 i2 i3 i4 i5 i6 i7 i8 i9 i10 m1 m2 m3 m4 m5 m6 cV c1 c2 c3 c4 H0 H1 H2 H3
  go_wp2_with fail
  go_loopw [71] (fun i wr => ∃ j : Nat, j ≤ v.length ∧ i = .int .i64 j ∧ (∀ q, q < j → hgtB v[q]! = true) ∧ Below w0.heap.size w0 wr) (fun i _ => v.length - (intOf i).toNat)
  case atStart => exact ⟨0, by omega, rfl, fun q hq => by omega, k⟩
  case round =>
    clear d0 d1 d2 d3 d4 d5 d6 d7 k
    obtain ⟨j, hj, rfl, hall, k⟩ := hrel
    obtain ⟨hro, d6, d7⟩ := HW.out _ k
    clear hro
    have kz := HB0.out.trans (k.mono HB0.out.size)
    by_cases hlt : j < v.length
    · obtain ⟨b, off, rfl, hb, g1⟩ := RdI.get hR kz hlt
      have HA := Lib.hid hall
      have HJ := Lib.hid fun h => no_hgts hlt h
      have HS := Lib.hid fun (h : hgtB v[j]! = true) => (show ∀ q, q < j + 1 → hgtB v[q]! = true from fun q hq => by
        rcases Nat.lt_succ_iff_lt_or_eq.1 hq with h1 | rfl
        · exact hall q h1
        · exact h)
      obtain ⟨z, hz⟩ : ∃ z, v[j]! = z := ⟨_, rfl⟩
      rw [hz] at g1 HJ HS
      clear hz hall
      have c5 := Lib.hid fun W => ter_from z (-10000) 10000 W
      have hzz : inB3 z (-10000) 10000 = hgtB z := rfl
      rw [hzz] at c5
      clear hzz
      have HK := Lib.hid k
      clear k kz
      generalize hgtB z = s at *
      go_wp2_with fail
      refine (c5.out _).mono ?_
      rintro e w9 ⟨rfl, hb9⟩
      have HK2 := Lib.hid (HK.out.trans (hb9.mono HK.out.size))
      clear hb9 d6 d7
      cases s
      · have HJ2 := Lib.hid (HJ.out rfl)
        clear HJ HS
        go_wp2
        go_ret
        exact RetV.int (by rw [HC2.out, HJ2.out]; rfl) (HB0.out.trans (HK2.out.mono HB0.out.size))
      · have HS2 := Lib.hid (HS.out rfl)
        clear HJ HS
        go_wp2
        go_roundw
        case rel => exact ⟨j + 1, by omega, by go_num, HS2.out, HK2.out⟩
        case measure => simp [intOf]; omega
    · obtain rfl : j = v.length := by omega
      have HA := Lib.hid (all_hgts hall)
      clear hall k d6 d7
      have HK := Lib.hid kz
      clear kz
      go_wp2
      go_ret
      exact RetV.int (by rw [HC2.out, HA.out]; rfl) HK.out
end Go.Proofs
/- The reference's check of a grid, walked. -/
set_option linter.unusedVariables false
set_option linter.unusedSimpArgs false
namespace Go.Proofs
open Go.RowKit Go.Proofs.Mp

theorem hgt_lo {z : Int} (h : z < -10000) : hgtB z = false := by unfold hgtB inB3; simp; omega
theorem hgt_hi {z : Int} (h : 10000 < z) : hgtB z = false := by unfold hgtB inB3; simp; omega
theorem hgt_ok {z : Int} (h : ¬ z < -10000) (g : ¬ 10000 < z) : hgtB z = true := by unfold hgtB inB3; simp; omega
/-- the error of a grid, in the reference's words -/
theorem chkH_ref (t : Ht) : chkH t = if Vp (t.x, t.y) ∧ 2 ≤ t.w ∧ t.w ≤ 64 ∧ 2 ≤ t.h ∧ t.h ≤ 64 ∧ 1 ≤ t.st ∧ t.st ≤ 1048576 then
    (if Vp (farX t, farY t) then (if (t.v.length : Int) = t.w * t.h then (if t.v.all hgtB = true then 0 else 2) else 1) else 2) else 2 := by
  unfold chkH
  have e1 : ((inB3 t.x (-1048576) 1048576 && inB3 t.y (-1048576) 1048576 && inB3 t.w 2 64 && inB3 t.h 2 64 && inB3 t.st 1 1048576) = true) = (Vp (t.x, t.y) ∧ 2 ≤ t.w ∧ t.w ≤ 64 ∧ 2 ≤ t.h ∧ t.h ≤ 64 ∧ 1 ≤ t.st ∧ t.st ≤ 1048576) := by
    apply propext
    unfold inB3 Vp
    simp only [Bool.and_eq_true, decide_eq_true_eq]
    omega
  have e2 : ((inB3 (farX t) (-1048576) 1048576 && inB3 (farY t) (-1048576) 1048576) = true) = Vp (farX t, farY t) := by
    apply propext
    unfold inB3 Vp
    simp only [Bool.and_eq_true, decide_eq_true_eq]
    omega
  simp only [e1, e2]
theorem chkH_zero {t : Ht} (h : chkH t = 0) : Vp (t.x, t.y) ∧ 2 ≤ t.w ∧ t.w ≤ 64 ∧ 2 ≤ t.h ∧ t.h ≤ 64 ∧ 1 ≤ t.st ∧ t.st ≤ 1048576 ∧ Vp (farX t, farY t) ∧ (t.v.length : Int) = t.w * t.h ∧ ∀ j, j < t.v.length → -10000 ≤ t.v[j]! ∧ t.v[j]! ≤ 10000 := by
  rw [chkH_ref] at h
  split at h
  · rename_i h1
    split at h
    · rename_i h2
      split at h
      · rename_i h3
        split at h
        · rename_i h4
          refine ⟨h1.1, h1.2.1, h1.2.2.1, h1.2.2.2.1, h1.2.2.2.2.1, h1.2.2.2.2.2.1, h1.2.2.2.2.2.2, h2, h3, fun j hj => ?_⟩
          rw [List.all_eq_true] at h4
          have := h4 t.v[j]! (by rw [getElem!_pos _ j hj]; exact List.getElem_mem _)
          exact inB3_iff this
        · cases h
      · cases h
    · cases h
  · cases h

set_option maxRecDepth 100000 in
set_option maxHeartbeats 1000000 in
theorem ref_at (t : Ht) (col row : Int) (w : World) (h1 : -1048576 ≤ t.x ∧ t.x ≤ 1048576 ∧ -1048576 ≤ t.y ∧ t.y ≤ 1048576) (h2 : 1 ≤ t.st ∧ t.st ≤ 1048576) (h3 : 0 ≤ col) (h4 : col ≤ 64) (h5 : 0 ≤ row) (h6 : row ≤ 64) :
    Calls Try.prog 49 #[aggH t, .int .i64 col, .int .i64 row] w (RetV w (.agg #[.int .i64 (t.x + col * t.st), .int .i64 (t.y + row * t.st)])) := by
  obtain ⟨x, y, tw, th, st, A, c, v⟩ := t
  unfold aggH celH
  dsimp only at *
  obtain ⟨x1, x2, x3, x4⟩ := h1
  obtain ⟨s1, s2⟩ := h2
  have e1 : 0 ≤ col * st ∧ col * st ≤ 67108864 := by
    have e1 : (0 : Int) * 0 ≤ col * st := Int.mul_le_mul (by omega) (by omega) (by omega) (by omega)
    have e2 : col * st ≤ 64 * 1048576 := Int.mul_le_mul (by omega) s2 (by omega) (by omega)
    omega
  have e2 : 0 ≤ row * st ∧ row * st ≤ 67108864 := by
    have e1 : (0 : Int) * 0 ≤ row * st := Int.mul_le_mul (by omega) (by omega) (by omega) (by omega)
    have e2 : row * st ≤ 64 * 1048576 := Int.mul_le_mul (by omega) s2 (by omega) (by omega)
    omega
  obtain ⟨a1, a2⟩ := e1
  obtain ⟨a3, a4⟩ := e2
  go_enter Try.func49, Try.ntmps49
  go_wp2_with fail
  refine bodyPost_ret (v := .agg #[.int .i64 (x + col * st), .int .i64 (y + row * st)]) ?_ rfl ?_
  · simp [results, Try.results49, go_sem]
  · exact ⟨rfl, ((Below.refl _ _).alloc (Nat.le_refl _) _).alloc (by simp) _⟩

set_option maxRecDepth 100000 in
set_option maxHeartbeats 8000000 in
theorem ref_checkH (t : Ht) (w : World) (hmax : t.v.length ≤ 1000000000000) (hR : RdI w t.a t.v) : Calls Try.prog 23 #[aggH t] w (RetV w (.int .i64 (chkH t))) := by
  have HC := Lib.hid (chkH_ref t)
  generalize chkH t = r at *
  have HW0 := Lib.hid fun (W : World) (hW : Below (w.alloc (.cells (celH t) 26)).heap.size (w.alloc (.cells (celH t) 26)) W) => (RowH.new w t).below hW
  have cA := Lib.hid fun (col row : Int) (W : World) (h0 : (-1048576 ≤ t.x ∧ t.x ≤ 1048576 ∧ -1048576 ≤ t.y ∧ t.y ≤ 1048576) ∧ (1 ≤ t.st ∧ t.st ≤ 1048576)) (h3 : 0 ≤ col) (h4 : col ≤ 64) (h5 : 0 ≤ row) (h6 : row ≤ 64) => ref_at t col row W h0.1 h0.2 h3 h4 h5 h6
  obtain ⟨x, y, tw, th, st, A, c, v⟩ := t
  unfold farX farY at HC
  unfold aggH celH at *
  dsimp only at *
  have cP := Lib.hid fun W => ref_point (x, y) W
  have cF := Lib.hid fun W => ref_point (x + (tw - 1) * st, y + (th - 1) * st) W
  unfold aggP at cP cF
  dsimp only at cP cF
  have hb0 := bw1 w (.cells #[.int .i64 x, .int .i64 y, .int .i64 tw, .int .i64 th, .int .i64 st, .slice A v.length c] 26)
  have HB0 := Lib.hid hb0
  clear hb0
  have k : Below (w.alloc (.cells #[.int .i64 x, .int .i64 y, .int .i64 tw, .int .i64 th, .int .i64 st, .slice A v.length c] 26)).heap.size (w.alloc (.cells #[.int .i64 x, .int .i64 y, .int .i64 tw, .int .i64 th, .int .i64 st, .slice A v.length c] 26)) (w.alloc (.cells #[.int .i64 x, .int .i64 y, .int .i64 tw, .int .i64 th, .int .i64 st, .slice A v.length c] 26)) := Below.refl _ _
  obtain ⟨d0, d1, d2, d3, d4, d5⟩ := (HW0.out _ k).cells
  dsimp only at d0 d1 d2 d3 d4 d5
  go_enter Try.func23, Try.ntmps23
  go_upto_region 1 with fail
  have HW := HW0
  clear HW0
  generalize (w.alloc (.cells #[.int .i64 x, .int .i64 y, .int .i64 tw, .int .i64 th, .int .i64 st, .slice A v.length c] 26)) = w0 at *
  by_cases hp : Vp (x, y)
  rotate_left
  · have HC2 := Lib.hid (HC.out.trans (if_neg fun h => hp h.1))
    have hd : decide (Vp (x, y)) = false := decide_eq_false hp
    rw [hd] at cP
    clear hp hd HC
    go_wp2_with fail
    refine (cP.out _).mono ?_
    rintro e w1 ⟨rfl, hb⟩
    replace k := k.trans (hb.mono k.size)
    clear hb d0 d1 d2 d3 d4 d5
    obtain ⟨d0, d1, d2, d3, d4, d5⟩ := (HW.out _ k).cells
    dsimp only at d0 d1 d2 d3 d4 d5
    have HK := Lib.hid (HB0.out.trans (k.mono HB0.out.size))
    clear k
    go_wp2
    go_ret
    exact RetV.int (by rw [HC2.out]) HK.out
  have hd : decide (Vp (x, y)) = true := decide_eq_true hp
  rw [hd] at cP
  clear hd
  by_cases q1 : tw < 2
  · have HC2 := Lib.hid (HC.out.trans (if_neg fun h => (by omega)))
    clear hp HC
    go_wp2_with fail
    refine (cP.out _).mono ?_
    rintro e w2 ⟨rfl, hb⟩
    replace k := k.trans (hb.mono k.size)
    clear hb d0 d1 d2 d3 d4 d5
    obtain ⟨d0, d1, d2, d3, d4, d5⟩ := (HW.out _ k).cells
    dsimp only at d0 d1 d2 d3 d4 d5
    have HK := Lib.hid (HB0.out.trans (k.mono HB0.out.size))
    clear k
    go_wp2
    go_ret
    exact RetV.int (by rw [HC2.out]) HK.out
  by_cases q2 : 64 < tw
  · have HC2 := Lib.hid (HC.out.trans (if_neg fun h => (by omega)))
    clear hp HC
    go_wp2_with fail
    refine (cP.out _).mono ?_
    rintro e w3 ⟨rfl, hb⟩
    replace k := k.trans (hb.mono k.size)
    clear hb d0 d1 d2 d3 d4 d5
    obtain ⟨d0, d1, d2, d3, d4, d5⟩ := (HW.out _ k).cells
    dsimp only at d0 d1 d2 d3 d4 d5
    have HK := Lib.hid (HB0.out.trans (k.mono HB0.out.size))
    clear k
    go_wp2
    go_ret
    exact RetV.int (by rw [HC2.out]) HK.out
  by_cases q3 : th < 2
  · have HC2 := Lib.hid (HC.out.trans (if_neg fun h => (by omega)))
    clear hp HC
    go_wp2_with fail
    refine (cP.out _).mono ?_
    rintro e w4 ⟨rfl, hb⟩
    replace k := k.trans (hb.mono k.size)
    clear hb d0 d1 d2 d3 d4 d5
    obtain ⟨d0, d1, d2, d3, d4, d5⟩ := (HW.out _ k).cells
    dsimp only at d0 d1 d2 d3 d4 d5
    have HK := Lib.hid (HB0.out.trans (k.mono HB0.out.size))
    clear k
    go_wp2
    go_ret
    exact RetV.int (by rw [HC2.out]) HK.out
  by_cases q4 : 64 < th
  · have HC2 := Lib.hid (HC.out.trans (if_neg fun h => (by omega)))
    clear hp HC
    go_wp2_with fail
    refine (cP.out _).mono ?_
    rintro e w5 ⟨rfl, hb⟩
    replace k := k.trans (hb.mono k.size)
    clear hb d0 d1 d2 d3 d4 d5
    obtain ⟨d0, d1, d2, d3, d4, d5⟩ := (HW.out _ k).cells
    dsimp only at d0 d1 d2 d3 d4 d5
    have HK := Lib.hid (HB0.out.trans (k.mono HB0.out.size))
    clear k
    go_wp2
    go_ret
    exact RetV.int (by rw [HC2.out]) HK.out
  by_cases q5 : st < 1
  · have HC2 := Lib.hid (HC.out.trans (if_neg fun h => (by omega)))
    clear hp HC
    go_wp2_with fail
    refine (cP.out _).mono ?_
    rintro e w6 ⟨rfl, hb⟩
    replace k := k.trans (hb.mono k.size)
    clear hb d0 d1 d2 d3 d4 d5
    obtain ⟨d0, d1, d2, d3, d4, d5⟩ := (HW.out _ k).cells
    dsimp only at d0 d1 d2 d3 d4 d5
    have HK := Lib.hid (HB0.out.trans (k.mono HB0.out.size))
    clear k
    go_wp2
    go_ret
    exact RetV.int (by rw [HC2.out]) HK.out
  by_cases q6 : 1048576 < st
  · have HC2 := Lib.hid (HC.out.trans (if_neg fun h => (by omega)))
    clear hp HC
    go_wp2_with fail
    refine (cP.out _).mono ?_
    rintro e w7 ⟨rfl, hb⟩
    replace k := k.trans (hb.mono k.size)
    clear hb d0 d1 d2 d3 d4 d5
    obtain ⟨d0, d1, d2, d3, d4, d5⟩ := (HW.out _ k).cells
    dsimp only at d0 d1 d2 d3 d4 d5
    have HK := Lib.hid (HB0.out.trans (k.mono HB0.out.size))
    clear k
    go_wp2
    go_ret
    exact RetV.int (by rw [HC2.out]) HK.out
  have HC1 := Lib.hid (HC.out.trans (if_pos ⟨hp, by omega, by omega, by omega, by omega, by omega, by omega⟩))
  clear HC
  unfold Vp at hp
  dsimp only at hp
  obtain ⟨x1, x2, x3, x4⟩ := hp
  obtain ⟨m1, m2⟩ := grid_mul (show 2 ≤ tw by omega) (show tw ≤ 64 by omega) (show 1 ≤ st by omega) (show st ≤ 1048576 by omega)
  obtain ⟨m3, m4⟩ := grid_mul (show 2 ≤ th by omega) (show th ≤ 64 by omega) (show 1 ≤ st by omega) (show st ≤ 1048576 by omega)
  obtain ⟨m5, m6⟩ := grid_mul2 (show 2 ≤ tw by omega) (show tw ≤ 64 by omega) (show 2 ≤ th by omega) (show th ≤ 64 by omega)
  have cA2 := Lib.hid fun W => cA.out (tw - 1) (th - 1) W (by omega) (by omega) (by omega) (by omega) (by omega)
  go_wp2_with fail
  refine (cP.out _).mono ?_
  rintro e w8 ⟨rfl, hb⟩
  replace k := k.trans (hb.mono k.size)
  clear hb d0 d1 d2 d3 d4 d5
  obtain ⟨d0, d1, d2, d3, d4, d5⟩ := (HW.out _ k).cells
  dsimp only at d0 d1 d2 d3 d4 d5
  go_wp2_with fail
  refine (cA2.out _).mono ?_
  rintro e w9 ⟨rfl, hb⟩
  replace k := k.trans (hb.mono k.size)
  clear hb d0 d1 d2 d3 d4 d5
  obtain ⟨d0, d1, d2, d3, d4, d5⟩ := (HW.out _ k).cells
  dsimp only at d0 d1 d2 d3 d4 d5
  by_cases hf : Vp (x + (tw - 1) * st, y + (th - 1) * st)
  rotate_left
  · have HC2 := Lib.hid (HC1.out.trans (if_neg hf))
    have hd : decide (Vp (x + (tw - 1) * st, y + (th - 1) * st)) = false := decide_eq_false hf
    rw [hd] at cF
    clear hf hd HC1
    go_wp2_with fail
    refine (cF.out _).mono ?_
    rintro e w10 ⟨rfl, hb⟩
    replace k := k.trans (hb.mono k.size)
    clear hb d0 d1 d2 d3 d4 d5
    obtain ⟨d0, d1, d2, d3, d4, d5⟩ := (HW.out _ k).cells
    dsimp only at d0 d1 d2 d3 d4 d5
    have HK := Lib.hid (HB0.out.trans (k.mono HB0.out.size))
    clear k
    go_wp2
    go_ret
    exact RetV.int (by rw [HC2.out]) HK.out
  have hd : decide (Vp (x + (tw - 1) * st, y + (th - 1) * st)) = true := decide_eq_true hf
  rw [hd] at cF
  have HC2 := Lib.hid (HC1.out.trans (if_pos hf))
  clear hd HC1 hf
  go_wp2_with fail
  refine (cF.out _).mono ?_
  rintro e w11 ⟨rfl, hb⟩
  replace k := k.trans (hb.mono k.size)
  clear hb d0 d1 d2 d3 d4 d5
  obtain ⟨d0, d1, d2, d3, d4, d5⟩ := (HW.out _ k).cells
  dsimp only at d0 d1 d2 d3 d4 d5
  by_cases hl : (v.length : Int) = tw * th
  rotate_left
  · have hl2 : ((v.length : Int) != tw * th) = true := by rw [bne_iff_ne]; exact hl
    have HC3 := Lib.hid (HC2.out.trans (if_neg hl))
    clear HC2 hl
    have HC2 := HC3
    have HK := Lib.hid (HB0.out.trans (k.mono HB0.out.size))
    clear k
    go_wp2
    go_ret
    exact RetV.int (by rw [HC2.out]) HK.out
  have hl2 : ((v.length : Int) != tw * th) = false := by rw [bne_eq_false_iff_eq]; exact hl
  have HC3 := Lib.hid (HC2.out.trans (if_pos hl))
  have HL := Lib.hid hl
  clear HC2 hl
  go_upto_block 0 with fail
  clear HL hl2 q1 q2 q3 q4 q5 q6 x1 x2 x3 x4 m1 m2 m3 m4 m5 m6 cP cA cF cA2
  go_wp2_with fail
  go_loopw [3] (fun i wr => ∃ j : Nat, j ≤ v.length ∧ i = .int .i64 j ∧ (∀ q, q < j → hgtB v[q]! = true) ∧ Below w0.heap.size w0 wr) (fun i _ => v.length - (intOf i).toNat)
  case atStart => exact ⟨0, by omega, rfl, fun q hq => by omega, k⟩
  case round =>
    clear d0 d1 d2 d3 d4 d5 k
    obtain ⟨j, hj, rfl, hall, k⟩ := hrel
    obtain ⟨d0, d1, d2, d3, d4, d5⟩ := (HW.out _ k).cells
    dsimp only at d0 d1 d2 d3 d4 d5
    have kz := HB0.out.trans (k.mono HB0.out.size)
    by_cases hlt : j < v.length
    · obtain ⟨b, off, rfl, hb, g1⟩ := RdI.get hR kz hlt
      have HA := Lib.hid hall
      have HJ := Lib.hid fun h => no_hgts hlt h
      have HS := Lib.hid fun (h : hgtB v[j]! = true) => (show ∀ q, q < j + 1 → hgtB v[q]! = true from fun q hq => by
        rcases Nat.lt_succ_iff_lt_or_eq.1 hq with h1 | rfl
        · exact hall q h1
        · exact h)
      obtain ⟨z, hz⟩ : ∃ z, v[j]! = z := ⟨_, rfl⟩
      rw [hz] at g1 HJ HS
      clear hz hall
      have HK := Lib.hid k
      clear k kz
      by_cases z1 : z < -10000
      · have HJ2 := Lib.hid (HJ.out (hgt_lo z1))
        go_wp2
        go_ret
        exact RetV.int (by rw [HC3.out, HJ2.out] <;> rfl) (HB0.out.trans (HK.out.mono HB0.out.size))
      by_cases z2 : 10000 < z
      · have HJ2 := Lib.hid (HJ.out (hgt_hi z2))
        go_wp2
        go_ret
        exact RetV.int (by rw [HC3.out, HJ2.out] <;> rfl) (HB0.out.trans (HK.out.mono HB0.out.size))
      have HS2 := Lib.hid (HS.out (hgt_ok z1 z2))
      go_wp2
      go_roundw
      case rel => exact ⟨j + 1, by omega, by go_num, HS2.out, HK.out⟩
      case measure => simp [intOf]; omega
    · obtain rfl : j = v.length := by omega
      have HA := Lib.hid (all_hgts hall)
      have HK := Lib.hid kz
      clear hall k kz
      go_wp2
      go_ret
      exact RetV.int (by rw [HC3.out, HA.out] <;> rfl) HK.out
end Go.Proofs
