/- number and at. -/
import Derived.Test.YtcfhhkdjdpkjpaaXH3
import Derived.Test.YtcfhhkdjdpkjpaaXJ3
import Derived.Deep.RegionHeld3
import Derived.StillTailTactics
set_option linter.unusedVariables false
set_option linter.unusedSimpArgs false
namespace Go.Proofs
open Go.RowKit Go.Proofs.Mp

/-- the number of the edge between two grid points -/
def numE (W a b : Nat) : Nat := if max a b - min a b = 1 then 3 * min a b else if max a b - min a b = W then 3 * min a b + 1 else 3 * min a b + 2

set_option maxRecDepth 100000 in
set_option maxHeartbeats 1000000 in
theorem con_number (t : Ht) (W a b : Nat) (w : World) (hW : t.w = (W : Int)) (ha : a ≤ 100000) (hb : b ≤ 100000) (hWm : W ≤ 100000) :
    Calls Try.prog 79 #[aggH t, .int .i64 a, .int .i64 b] w (RetV w (.int .i64 (numE W a b))) := by
  obtain ⟨x, y, tw, th, st, A, c, v⟩ := t
  unfold aggH celH
  dsimp only at *
  subst hW
  have hb0 := bw1 w (.cells #[.int .i64 x, .int .i64 y, .int .i64 W, .int .i64 th, .int .i64 st, .slice A v.length c] 26)
  have HN := Lib.hid (show numE W a b = if max a b - min a b = 1 then 3 * min a b else if max a b - min a b = W then 3 * min a b + 1 else 3 * min a b + 2 from rfl)
  obtain ⟨i, hi⟩ : ∃ i, min a b = i := ⟨_, rfl⟩
  obtain ⟨j, hj⟩ : ∃ j, max a b = j := ⟨_, rfl⟩
  have hi' : min (a : Int) (b : Int) = (i : Int) := by omega
  have hj' : max (a : Int) (b : Int) = (j : Int) := by omega
  have hij : i ≤ j := by omega
  have hi2 : (i : Int) ≤ 100000 := by omega
  have hj2 : (j : Int) ≤ 100000 := by omega
  have hi0 : (0 : Int) ≤ (i : Int) := by omega
  have hj0 : (0 : Int) ≤ (j : Int) := by omega
  rw [hi, hj] at HN
  generalize numE W a b = r at *
  clear hi hj
  by_cases h1 : j - i = 1
  · have e1 : ((j : Int) - (i : Int) == 1) = true := by rw [beq_iff_eq]; omega
    have HR := Lib.hid (HN.out.trans (if_pos h1))
    clear HN h1
    go_enter Try.func79, Try.ntmps79
    go_wp2
    go_ret
    exact ⟨by rw [HR.out] <;> simp, hb0⟩
  have e1 : ((j : Int) - (i : Int) == 1) = false := by rw [beq_eq_false_iff_ne]; omega
  have HN2 := Lib.hid (HN.out.trans (if_neg h1))
  clear HN h1
  by_cases h2 : j - i = W
  · have e2 : ((j : Int) - (i : Int) == (W : Int)) = true := by rw [beq_iff_eq]; omega
    have HR := Lib.hid (HN2.out.trans (if_pos h2))
    clear HN2 h2
    go_enter Try.func79, Try.ntmps79
    go_wp2
    go_ret
    exact ⟨by rw [HR.out] <;> simp, hb0⟩
  have e2 : ((j : Int) - (i : Int) == (W : Int)) = false := by rw [beq_eq_false_iff_ne]; omega
  have HR := Lib.hid (HN2.out.trans (if_neg h2))
  clear HN2 h2
  go_enter Try.func79, Try.ntmps79
  go_wp2
  go_ret
  exact ⟨by rw [HR.out] <;> simp, hb0⟩

/-- a grid point -/
def ptA (t : Ht) (W i : Nat) : Pt := (t.x + ((i % W : Nat) : Int) * t.st, t.y + ((i / W : Nat) : Int) * t.st)

set_option maxRecDepth 100000 in
set_option maxHeartbeats 2000000 in
theorem con_at (t : Ht) (W i : Nat) (w : World) (hW : t.w = (W : Int)) (hW0 : 1 ≤ W) (hW1 : W ≤ 64) (hi : i < 4096) (h1 : -1048576 ≤ t.x ∧ t.x ≤ 1048576 ∧ -1048576 ≤ t.y ∧ t.y ≤ 1048576) (h2 : 1 ≤ t.st ∧ t.st ≤ 1048576) :
    Calls Try.prog 74 #[aggH t, .int .i64 i] w (RetV w (aggP (ptA t W i))) := by
  have HP := Lib.hid (show ptA t W i = (t.x + ((i % W : Nat) : Int) * t.st, t.y + ((i / W : Nat) : Int) * t.st) from rfl)
  generalize ptA t W i = p at *
  obtain ⟨x, y, tw, th, st, A, c, v⟩ := t
  unfold aggH celH aggP
  dsimp only at *
  subst hW
  obtain ⟨x1, x2, x3, x4⟩ := h1
  obtain ⟨s1, s2⟩ := h2
  have hr : ((i : Int)).tmod (W : Int) = ((i % W : Nat) : Int) := rfl
  have hq : ((i : Int)).tdiv (W : Int) = ((i / W : Nat) : Int) := rfl
  have hm1 : i % W < 64 := Nat.lt_of_lt_of_le (Nat.mod_lt _ (by omega)) hW1
  have hm2 : i / W ≤ 4096 := Nat.le_trans (Nat.div_le_self _ _) (by omega)
  have hw0 : ¬ W = 0 := by omega
  generalize i % W = m at *
  generalize i / W = q at *
  have e1 : 0 ≤ (m : Int) * st ∧ (m : Int) * st ≤ 67108864 := by
    have e1 : (0 : Int) * 0 ≤ (m : Int) * st := Int.mul_le_mul (by omega) (by omega) (by omega) (by omega)
    have e2 : (m : Int) * st ≤ 64 * 1048576 := Int.mul_le_mul (by omega) s2 (by omega) (by omega)
    omega
  have e2 : 0 ≤ (q : Int) * st ∧ (q : Int) * st ≤ 4294967296 := by
    have e1 : (0 : Int) * 0 ≤ (q : Int) * st := Int.mul_le_mul (by omega) (by omega) (by omega) (by omega)
    have e2 : (q : Int) * st ≤ 4096 * 1048576 := Int.mul_le_mul (by omega) s2 (by omega) (by omega)
    omega
  obtain ⟨a1, a2⟩ := e1
  obtain ⟨a3, a4⟩ := e2
  have hwm : IntKind.i64.wrap (m : Int) = (m : Int) := IntWalk.i64_in _ (by omega)
  have hwq : IntKind.i64.wrap (q : Int) = (q : Int) := IntWalk.i64_in _ (by omega)
  have hw1 : IntKind.i64.wrap ((m : Int) * st) = (m : Int) * st := IntWalk.i64_in _ (by omega)
  have hw2 : IntKind.i64.wrap ((q : Int) * st) = (q : Int) * st := IntWalk.i64_in _ (by omega)
  have hw3 : IntKind.i64.wrap (x + (m : Int) * st) = x + (m : Int) * st := IntWalk.i64_in _ (by omega)
  have hw4 : IntKind.i64.wrap (y + (q : Int) * st) = y + (q : Int) * st := IntWalk.i64_in _ (by omega)
  have hrow : RowH (w.alloc (.cells #[.int .i64 x, .int .i64 y, .int .i64 W, .int .i64 th, .int .i64 st, .slice A v.length c] 26)) w.heap.size ⟨x, y, W, th, st, A, c, v⟩ := RowH.new w ⟨x, y, W, th, st, A, c, v⟩
  have hro2 := hrow.below (bw1 _ (.cells #[.int .i64 0, .int .i64 0] 23))
  have hbp := BoxP.new (w.alloc (.cells #[.int .i64 x, .int .i64 y, .int .i64 W, .int .i64 th, .int .i64 st, .slice A v.length c] 26)) (0, 0)
  rw [show (w.alloc (.cells #[.int .i64 x, .int .i64 y, .int .i64 W, .int .i64 th, .int .i64 st, .slice A v.length c] 26)).heap.size = w.heap.size + 1 by simp] at hbp
  have hB : Below w.heap.size w ((w.alloc (.cells #[.int .i64 x, .int .i64 y, .int .i64 W, .int .i64 th, .int .i64 st, .slice A v.length c] 26)).alloc (.cells #[.int .i64 0, .int .i64 0] 23)) := (bw1 _ _).alloc (by simp) _
  go_enter Try.func74, Try.ntmps74
  go_upto_region 1 with fail
  refine wp_region_still_tail 23 (by kernel_rfl) (by kernel_rfl) ?_
  simp only [List.take_succ_cons, List.take_zero, List.drop_succ_cons, List.drop_zero]
  generalize ((w.alloc (.cells #[.int .i64 x, .int .i64 y, .int .i64 W, .int .i64 th, .int .i64 st, .slice A v.length c] 26)).alloc (.cells #[.int .i64 0, .int .i64 0] 23)) = w0 at *
  change wpStill _ _ w0.drew (fun a' => wpList _ _ _ _ a' w0.drew) _ _
  have k0 : RowH w0.drew w.heap.size ⟨x, y, W, th, st, A, c, v⟩ := hro2
  have k1 : BoxP w0.drew (w.heap.size + 1) (0, 0) := hbp
  have k2 : Below w.heap.size w w0.drew := below_drewN hB 1
  clear hrow hro2 hbp hB
  generalize w0.drew = w1 at *
  obtain ⟨d0, d1, d2, d3, d4, d5⟩ := k0.cells
  dsimp only at d0 d1 d2 d3 d4 d5
  obtain ⟨g1, g2, f1, f2, l1⟩ := k1.cel
  dsimp only at g1 g2
  have hfin := k1.set (x + (m : Int) * st, y + (q : Int) * st)
  have HFB := Lib.hid (below_setP k2 (m := w.heap.size + 1) (q := (x + (m : Int) * st, y + (q : Int) * st)) (by omega))
  repeat still_step
  refine wpStill_nil ?_
  clear d0 d1 d2 d3 d4 d5 k0 k1 k2
  go_wp2_with fail
  have q1 := hfin.c0
  have q2 := hfin.c1
  refine bodyPost_ret (v := .agg #[.int .i64 (x + (m : Int) * st), .int .i64 (y + (q : Int) * st)]) (by simp only [setP] at q1 q2; simp [results, Try.results74, go_sem, q1, q2]) rfl ?_
  exact ⟨by rw [HP.out], HFB.out⟩
end Go.Proofs
/- crossing. -/
set_option linter.unusedVariables false
set_option linter.unusedSimpArgs false
namespace Go.Proofs
open Go.RowKit Go.Proofs.Mp

theorem wpAnyH_share {P : Program} {md : Region.Mode} {ops : Array Oper} {Q : Exit → Act → World → Prop} {S : World → Prop} {f0 : Nat} {l0 : Array Bool} {a0 : Act} {w0 : World} {C : Type} (T : (Nat → Array Bool → Act → World → Prop) → Nat → Array Bool → C → Prop) {x : Nat} {y : Array Bool} {z : C} (main : T (wpAnyH P md ops Q S) x y z → wpAnyH P md ops Q S f0 l0 a0 w0) (tail : T (wpAnyH P md ops Q S) x y z) : wpAnyH P md ops Q S f0 l0 a0 w0 := main tail
theorem wpAnyH_cast {P : Program} {md : Region.Mode} {ops : Array Oper} {Q : Exit → Act → World → Prop} {S : World → Prop} {f f' : Nat} {l l' : Array Bool} {a : Act} {w : World} (hf : f = f') (hl : l = l') (h : wpAnyH P md ops Q S f' l' a w) : wpAnyH P md ops Q S f l a w := by subst hf; subst hl; exact h

/-- a variable of the call's own, in a block from B on, that holds the point p -/
def BoxV (B : Nat) (w : World) (pv : Value) (p : Pt) : Prop := ∃ g, pv = .pointer (some ⟨g, 0, none⟩) ∧ B ≤ g ∧ BoxP w g p
theorem BoxV.belowR {B : Nat} {w w' : World} {pv : Value} {p : Pt} (h : BoxV B w pv p) (hb : Below w.heap.size w w') : BoxV B w' pv p := by
  obtain ⟨g, rfl, h1, h2⟩ := h
  exact ⟨g, rfl, h1, h2.below hb⟩
theorem BoxV.alloc {B : Nat} {w : World} {pv : Value} {p : Pt} (h : BoxV B w pv p) (o : Obj) : BoxV B (w.alloc o) pv p := h.belowR (bw1 _ _)
theorem BoxV.new {B : Nat} (w : World) (hB : B ≤ w.heap.size) : BoxV B (w.alloc (.cells #[.int .i64 0, .int .i64 0] 23)) (.pointer (some ⟨w.heap.size, 0, none⟩)) (0, 0) := ⟨_, rfl, hB, heap_alloc_new w _⟩
/-- two variables are two -/
def NeV (w : World) (p q : Value) : Prop := p ≠ q
theorem NeV.belowR {w w' : World} {p q : Value} (h : NeV w p q) (hb : Below w.heap.size w w') : NeV w' p q := h
theorem NeV.new1 {B : Nat} {w : World} {pv : Value} {p : Pt} (h : BoxV B w pv p) (o : Obj) : NeV (w.alloc o) (.pointer (some ⟨w.heap.size, 0, none⟩)) pv := by
  obtain ⟨g, rfl, h1, h2⟩ := h
  intro e
  injection e with e
  injection e with e
  injection e with e
  have := h2.lt
  omega
theorem NeV.new2 {B : Nat} {w : World} {pv : Value} {p : Pt} (h : BoxV B w pv p) (o : Obj) : NeV (w.alloc o) pv (.pointer (some ⟨w.heap.size, 0, none⟩)) := fun e => NeV.new1 h o e.symm
theorem BoxV.other {B : Nat} {w : World} {g : Nat} {pv : Value} {p : Pt} (h : BoxV B w pv p) (hne : pv ≠ .pointer (some ⟨g, 0, none⟩)) (q : Pt) : BoxV B (setP w g q) pv p := by
  obtain ⟨g', rfl, h1, h2⟩ := h
  exact ⟨g', rfl, h1, h2.other (fun e => hne (by rw [e])) q⟩
theorem BoxV.store {B : Nat} {ops : Array Oper} {o : Oper} {a : Act} {K : Act → World → Prop} {Q : Exit → Act → World → Prop} {E : Prop} {w : World} {pv : Value} {p : Pt} (h : BoxV B w pv p) (q : Pt) (hgd : o.guard = none) (X Y : Operand) (ho : o.op = .store 23 X Y)
    (hx : a.eval X = pv) (hy : a.eval Y = .agg #[.int .i64 q.1, .int .i64 q.2]) (hK : ∀ w', BoxV B w' pv q → (∀ pv' p', pv' ≠ pv → BoxV B w pv' p' → BoxV B w' pv' p') → Below B w w' → K (a.put o.dst undef) w') :
    if Region.wanted o (yielded ops a.tmps) = true then Oper.wp Try.prog o a w K Q else E := by
  have hw : Region.wanted o (yielded ops a.tmps) = true := by simp [Region.wanted, hgd]
  rw [if_pos hw]
  obtain ⟨g, rfl, h1, h2⟩ := h
  obtain ⟨k1, k2, f1, f2, l1⟩ := h2.cel
  have hK2 := hK (setP w g q) ⟨g, rfl, h1, h2.set q⟩ (fun pv' p' hne hb => hb.other hne q) (below_setP (Below.refl _ _) h1)
  unfold setP at hK2
  unfold Oper.wp execOp
  simp only [ho, hx, hy]
  go_simp
  exact hK2
def abv (t : Ht) (level : Int) (i : Nat) : Bool := decide (level ≤ t.v[i]!)
/-- the lower and the higher end of an edge -/
def loE (t : Ht) (W : Nat) (level : Int) (e : Nat) : Nat := if level ≤ t.v[e / 3]! then e / 3 + offE W e else e / 3
def hiE (t : Ht) (W : Nat) (level : Int) (e : Nat) : Nat := if level ≤ t.v[e / 3]! then e / 3 else e / 3 + offE W e
/-- the crossing point of an edge -/
def ptE (t : Ht) (W : Nat) (level : Int) (e : Nat) : Pt :=
  ((ptA t W (loE t W level e)).1 + rnd (((ptA t W (hiE t W level e)).1 - (ptA t W (loE t W level e)).1) * (level - t.v[loE t W level e]!)) (t.v[hiE t W level e]! - t.v[loE t W level e]!),
   (ptA t W (loE t W level e)).2 + rnd (((ptA t W (hiE t W level e)).2 - (ptA t W (loE t W level e)).2) * (level - t.v[loE t W level e]!)) (t.v[hiE t W level e]! - t.v[loE t W level e]!))
/-- the columns and rows of a valid grid -/
structure Grd (t : Ht) (W H : Nat) : Prop where
  c : chkH t = 0
  w : t.w = (W : Int)
  h : t.h = (H : Int)
theorem Grd.mk' {t : Ht} (h : chkH t = 0) : ∃ W H, Grd t W H := by
  obtain ⟨_, h1, _, h3, _, _⟩ := chkH_zero h
  exact ⟨t.w.toNat, t.h.toNat, h, by omega, by omega⟩
theorem Grd.all {t : Ht} {W H : Nat} (g : Grd t W H) : 2 ≤ W ∧ W ≤ 64 ∧ 2 ≤ H ∧ H ≤ 64 ∧ t.v.length = W * H ∧ W * H ≤ 4096 ∧ 1 ≤ t.st ∧ t.st ≤ 1048576 ∧ Vp (t.x, t.y) ∧ Vp (farX t, farY t) ∧ ∀ j, j < W * H → -10000 ≤ t.v[j]! ∧ t.v[j]! ≤ 10000 := by
  obtain ⟨h0, h1, h2, h3, h4, h5, h6, h7, h8, h9⟩ := chkH_zero g.c
  rw [g.w] at h1 h2 h8
  rw [g.h] at h3 h4 h8
  have hl : t.v.length = W * H := by
    have : ((W * H : Nat) : Int) = (W : Int) * (H : Int) := Int.natCast_mul W H
    omega
  have := Nat.mul_le_mul (show W ≤ 64 by omega) (show H ≤ 64 by omega)
  refine ⟨by omega, by omega, by omega, by omega, hl, by omega, h5, h6, h0, h7, fun j hj => h9 j (by omega)⟩
theorem ptA_vp {t : Ht} {W H i : Nat} (g : Grd t W H) (hi : i < W * H) : Vp (ptA t W i) := by
  obtain ⟨h1, h2, h3, h4, h5, h6, h7, h8, h9, h10, _⟩ := g.all
  have e1 : i % W < W := Nat.mod_lt _ (by omega)
  have e2 : i / W < H := by rw [Nat.div_lt_iff_lt_mul (by omega), Nat.mul_comm]; exact hi
  unfold farX farY at h10
  rw [g.w, g.h] at h10
  unfold Vp at *
  unfold ptA
  dsimp only at *
  generalize i % W = m at *
  generalize i / W = q at *
  have a1 : (m : Int) * t.st ≤ ((W : Int) - 1) * t.st := Int.mul_le_mul_of_nonneg_right (by omega) (by omega)
  have a2 : (q : Int) * t.st ≤ ((H : Int) - 1) * t.st := Int.mul_le_mul_of_nonneg_right (by omega) (by omega)
  have a3 : 0 ≤ (m : Int) * t.st := Int.mul_nonneg (by omega) (by omega)
  have a4 : 0 ≤ (q : Int) * t.st := Int.mul_nonneg (by omega) (by omega)
  omega
theorem edge_ends {W H e : Nat} (hW : 1 ≤ W) (h : isE W H e = true) : e / 3 < W * H ∧ e / 3 + offE W e < W * H := by
  unfold isE at h
  rw [Bool.and_eq_true, decide_eq_true_eq] at h
  have hd := Nat.div_add_mod (e / 3) W
  have hm : e / 3 % W < W := Nat.mod_lt _ (by omega)
  have key : ∀ r c, r < H → c < W → W * r + c < W * H := by
    intro r c hr hc
    have := Nat.mul_le_mul_left W (show r + 1 ≤ H by omega)
    rw [Nat.mul_succ] at this
    omega
  have k1 := key _ _ h.1 hm
  refine ⟨by omega, ?_⟩
  unfold offE
  split at h
  · rename_i h0
    rw [decide_eq_true_eq] at h
    rw [if_pos h0]
    have := key _ _ h.1 h.2
    omega
  · rename_i h0
    rw [if_neg h0]
    split at h
    · rename_i h1
      rw [decide_eq_true_eq] at h
      rw [if_pos h1]
      have := key _ _ h.2 hm
      rw [Nat.mul_succ] at this
      omega
    · rename_i h1
      rw [Bool.and_eq_true, decide_eq_true_eq, decide_eq_true_eq] at h
      rw [if_neg h1]
      have := key _ _ h.2.2 h.2.1
      rw [Nat.mul_succ] at this
      omega
/-- a crossed edge has an end below and one above -/
theorem crs_ends {t : Ht} {W H e : Nat} {level : Int} (g : Grd t W H) (h : crsB (abv t level) W H e = true) : loE t W level e < W * H ∧ hiE t W level e < W * H ∧ t.v[loE t W level e]! < level ∧ level ≤ t.v[hiE t W level e]! := by
  have hW := g.all.1
  unfold crsB at h
  rw [Bool.and_eq_true] at h
  obtain ⟨k1, k2⟩ := edge_ends (by omega) h.1
  have h2 := h.2
  unfold abv at h2
  rw [bne_iff_ne, Ne, decide_eq_decide] at h2
  unfold loE hiE
  by_cases hc : level ≤ t.v[e / 3]!
  · rw [if_pos hc, if_pos hc]
    exact ⟨k2, k1, by omega, hc⟩
  · rw [if_neg hc, if_neg hc]
    exact ⟨k1, k2, by omega, by omega⟩

set_option maxRecDepth 100000 in
set_option maxHeartbeats 16000000 in
theorem con_crossing (t : Ht) (W H : Nat) (level : Int) (e : Nat) (w : World) (g : Grd t W H) (he : crsB (abv t level) W H e = true) (hR : RdI w t.a t.v) :
    Calls Try.prog 53 #[aggH t, .int .i64 level, .int .i64 e] w (RetV w (aggP (ptE t W level e))) := by
  obtain ⟨a1, a2, a3, a4, a5, a6, a7, a8, a9, a10, a11⟩ := g.all
  obtain ⟨c1, c2, c3, c4⟩ := crs_ends g he
  have hlt := crs_lt he
  have he1 : (e : Int) ≤ 12288 := by
    have : 3 * W * H = 3 * (W * H) := Nat.mul_assoc 3 W H
    omega
  have hvl := a11 _ c1
  have hvh := a11 _ c2
  have hp1 := ptA_vp g c1
  have hp2 := ptA_vp g c2
  have hP := Lib.hid (show ptE t W level e = ((ptA t W (loE t W level e)).1 + rnd (((ptA t W (hiE t W level e)).1 - (ptA t W (loE t W level e)).1) * (level - t.v[loE t W level e]!)) (t.v[hiE t W level e]! - t.v[loE t W level e]!),
   (ptA t W (loE t W level e)).2 + rnd (((ptA t W (hiE t W level e)).2 - (ptA t W (loE t W level e)).2) * (level - t.v[loE t W level e]!)) (t.v[hiE t W level e]! - t.v[loE t W level e]!)) from rfl)
  have cL := Lib.hid fun (W' : World) => con_at t W (loE t W level e) W' g.w (by omega) a2 (by omega) (by unfold Vp at a9; dsimp only at a9; omega) ⟨a7, a8⟩
  have cH := Lib.hid fun (W' : World) => con_at t W (hiE t W level e) W' g.w (by omega) a2 (by omega) (by unfold Vp at a9; dsimp only at a9; omega) ⟨a7, a8⟩
  obtain ⟨b, off, hA, hbb, hcc⟩ := RdI.all hR (by rw [a5]; omega)
  have hcl := Lib.hid fun W' hb => hcc W' hb (loE t W level e) (by omega)
  have hch := Lib.hid fun W' hb => hcc W' hb (hiE t W level e) (by omega)
  have hce := Lib.hid fun W' hb => hcc W' hb (e / 3) (by
    unfold crsB at he
    rw [Bool.and_eq_true] at he
    have := (edge_ends (show 1 ≤ W by omega) he.1).1
    omega)
  have HL := Lib.hid (show loE t W level e = if level ≤ t.v[e / 3]! then e / 3 + offE W e else e / 3 from rfl)
  have HH := Lib.hid (show hiE t W level e = if level ≤ t.v[e / 3]! then e / 3 else e / 3 + offE W e from rfl)
  have hge := edge_ends (show 1 ≤ W by omega) (show isE W H e = true by unfold crsB at he; rw [Bool.and_eq_true] at he; exact he.1)
  have hlen : (t.v.length : Int) = ((W * H : Nat) : Int) := by omega
  generalize loE t W level e = lo at *
  generalize hiE t W level e = hi at *
  have hge1 : ((e / 3 : Nat) : Int) < (t.v.length : Int) := by omega
  have hgl : (lo : Int) < (t.v.length : Int) := by omega
  have hgh : (hi : Int) < (t.v.length : Int) := by omega
  have hW64 : (W : Int) ≤ 64 := by omega
  obtain ⟨p1, hpp1⟩ : ∃ p, ptA t W lo = p := ⟨_, rfl⟩
  obtain ⟨p2, hpp2⟩ : ∃ p, ptA t W hi = p := ⟨_, rfl⟩
  obtain ⟨u, hu⟩ : ∃ u, t.v[lo]! = u := ⟨_, rfl⟩
  obtain ⟨v', hv'⟩ : ∃ u, t.v[hi]! = u := ⟨_, rfl⟩
  obtain ⟨z, hz⟩ : ∃ u, t.v[e / 3]! = u := ⟨_, rfl⟩
  rw [hpp1] at cL hp1 hP
  rw [hpp2] at cH hp2 hP
  rw [hu] at c3 hvl hP hcl
  rw [hv'] at c4 hvh hP hch
  rw [hz] at HL HH hce
  clear hpp1 hpp2 hu hv' hz hlt he hcc a11
  generalize ptE t W level e = res at *
  have hwt := g.w
  obtain ⟨x, y, tw, th, st, A, c, v⟩ := t
  obtain ⟨p1x, p1y⟩ := p1
  obtain ⟨p2x, p2y⟩ := p2
  unfold aggH celH aggP at *
  unfold Vp at hp1 hp2
  dsimp only at *
  subst hA hwt
  obtain ⟨m1, m2, m3, m4⟩ := hp1
  obtain ⟨m5, m6, m7, m8⟩ := hp2
  obtain ⟨n1, n2⟩ := hvl
  obtain ⟨n3, n4⟩ := hvh
  have hx1 := mul_bound (a := p2x - p1x) (b := level - u) (n := 2097152) (m := 20000) (by omega) (by omega) (by omega) (by omega) (by omega)
  have hx2 := mul_bound (a := p2y - p1y) (b := level - u) (n := 2097152) (m := 20000) (by omega) (by omega) (by omega) (by omega) (by omega)
  obtain ⟨o1, o2⟩ := hx1
  obtain ⟨o3, o4⟩ := hx2
  have cX := Lib.hid fun W' => num_round ((p2x - p1x) * (level - u)) (v' - u) W' (by omega) (by omega) (by omega) (by omega)
  have cY := Lib.hid fun W' => num_round ((p2y - p1y) * (level - u)) (v' - u) W' (by omega) (by omega) (by omega) (by omega)
  have hwx : IntKind.i64.wrap ((p2x - p1x) * (level - u)) = (p2x - p1x) * (level - u) := IntWalk.i64_in _ (by omega)
  have hwy : IntKind.i64.wrap ((p2y - p1y) * (level - u)) = (p2y - p1y) * (level - u) := IntWalk.i64_in _ (by omega)
  have hwa : IntKind.i64.wrap (p2x - p1x) = p2x - p1x := IntWalk.i64_in _ (by omega)
  have hwb : IntKind.i64.wrap (p2y - p1y) = p2y - p1y := IntWalk.i64_in _ (by omega)
  have hwc : IntKind.i64.wrap (level - u) = level - u := IntWalk.i64_in _ (by omega)
  have hwd : IntKind.i64.wrap (v' - u) = v' - u := IntWalk.i64_in _ (by omega)
  have hr1 := rnd_near (a := (p2x - p1x) * (level - u)) (b := v' - u) (by omega)
  have hr2 := rnd_near (a := (p2y - p1y) * (level - u)) (b := v' - u) (by omega)
  obtain ⟨rx, hrx⟩ : ∃ r, rnd ((p2x - p1x) * (level - u)) (v' - u) = r := ⟨_, rfl⟩
  obtain ⟨ry, hry⟩ : ∃ r, rnd ((p2y - p1y) * (level - u)) (v' - u) = r := ⟨_, rfl⟩
  rw [hrx] at hr1 cX hP
  rw [hry] at hr2 cY hP
  clear hrx hry
  have ab1 : absI ((p2x - p1x) * (level - u)) ≤ 41943040000 := by unfold absI; split <;> omega
  have ab2 : absI ((p2y - p1y) * (level - u)) ≤ 41943040000 := by unfold absI; split <;> omega
  have q1 : -10000000000000 ≤ rx ∧ rx ≤ 10000000000000 := by omega
  have q2 : -10000000000000 ≤ ry ∧ ry ≤ 10000000000000 := by omega
  obtain ⟨q11, q12⟩ := q1
  obtain ⟨q21, q22⟩ := q2
  clear hr1 hr2 ab1 ab2
  have ht3 : ((e : Int)).tdiv 3 = ((e / 3 : Nat) : Int) := rfl
  have hm3 : ((e : Int)).tmod 3 = ((e % 3 : Nat) : Int) := rfl
  have hoff := Lib.hid (show offE W e = if e % 3 = 0 then 1 else if e % 3 = 1 then W else W + 1 from rfl)
  have he3 : ((e / 3 : Nat) : Int) ≤ 4096 := by omega
  have he0 : (0 : Int) ≤ ((e / 3 : Nat) : Int) := by omega
  have hw3 : IntKind.i64.wrap ((e / 3 : Nat) : Int) = ((e / 3 : Nat) : Int) := IntWalk.i64_in _ (by omega)
  have hob : offE W e ≤ 65 := by unfold offE; split <;> (try split) <;> omega
  obtain ⟨f, hf⟩ : ∃ f, offE W e = f := ⟨_, rfl⟩
  rw [hf] at HL HH hoff hge hob
  clear hf
  obtain ⟨i, hi'⟩ : ∃ i, e / 3 = i := ⟨_, rfl⟩
  rw [hi'] at ht3 he3 he0 hw3 HL HH hge hge1 hce
  clear hi'
  obtain ⟨s, hs⟩ : ∃ s, e % 3 = s := ⟨_, rfl⟩
  have hs3 : s < 3 := by rw [← hs]; exact Nat.mod_lt _ (by omega)
  rw [hs] at hm3 hoff
  clear hs
  obtain ⟨sm, hsm⟩ : ∃ m : Int, (s : Int) = m := ⟨_, rfl⟩
  rw [hsm] at hm3
  have HSM := Lib.hid hsm
  clear hsm a5 hlen
  have hB : Below w.heap.size w ((w.alloc (.cells #[.int .i64 x, .int .i64 y, .int .i64 W, .int .i64 th, .int .i64 st, .slice (some ⟨b, off, none⟩) v.length c] 26)).alloc (.cells #[.int .i64 0, .int .i64 0] 23)) := (bw1 _ _).alloc (by simp) _
  have hrow : RowH ((w.alloc (.cells #[.int .i64 x, .int .i64 y, .int .i64 W, .int .i64 th, .int .i64 st, .slice (some ⟨b, off, none⟩) v.length c] 26)).alloc (.cells #[.int .i64 0, .int .i64 0] 23)) w.heap.size ⟨x, y, W, th, st, some ⟨b, off, none⟩, c, v⟩ :=
    (RowH.new w ⟨x, y, W, th, st, some ⟨b, off, none⟩, c, v⟩).below (bw1 _ _)
  have hbp : BoxP ((w.alloc (.cells #[.int .i64 x, .int .i64 y, .int .i64 W, .int .i64 th, .int .i64 st, .slice (some ⟨b, off, none⟩) v.length c] 26)).alloc (.cells #[.int .i64 0, .int .i64 0] 23)) (w.heap.size + 1) (0, 0) := by
    have := BoxP.new (w.alloc (.cells #[.int .i64 x, .int .i64 y, .int .i64 W, .int .i64 th, .int .i64 st, .slice (some ⟨b, off, none⟩) v.length c] 26)) (0, 0)
    rwa [show (w.alloc (.cells #[.int .i64 x, .int .i64 y, .int .i64 W, .int .i64 th, .int .i64 st, .slice (some ⟨b, off, none⟩) v.length c] 26)).heap.size = w.heap.size + 1 by simp] at this
  have gz := hce.out _ hB
  obtain ⟨d0, d1, d2, d3, d4, d5⟩ := hrow.cells
  dsimp only at d0 d1 d2 d3 d4 d5
  go_enter Try.func53, Try.ntmps53
  go_upto_region 1 with fail
  have hs0 : ((w.alloc (.cells #[.int .i64 x, .int .i64 y, .int .i64 W, .int .i64 th, .int .i64 st, .slice (some ⟨b, off, none⟩) v.length c] 26)).alloc (.cells #[.int .i64 0, .int .i64 0] 23)).heap.size = w.heap.size + 2 := by simp
  generalize ((w.alloc (.cells #[.int .i64 x, .int .i64 y, .int .i64 W, .int .i64 th, .int .i64 st, .slice (some ⟨b, off, none⟩) v.length c] 26)).alloc (.cells #[.int .i64 0, .int .i64 0] 23)) = w0 at *
  go_upto_block 0 with fail
  go_cut [8] (fun s8 wc => s8 = .int .i64 ((i : Int) + (f : Int)) ∧ wc = w0)
  case first =>
    rcases (by omega : s = 0 ∨ s = 1 ∨ s = 2) with rfl | rfl | rfl
    · obtain rfl : sm = 0 := HSM.out.symm
      have hf1 : f = 1 := by have := hoff.out; simpa using this
      subst hf1
      go_wp2
      go_meet
      exact ⟨by simp, rfl⟩
    · obtain rfl : sm = 1 := HSM.out.symm
      have hf1 : f = W := by have := hoff.out; simpa using this
      subst hf1
      go_wp2
      go_meet
      exact ⟨by simp, rfl⟩
    · obtain rfl : sm = 2 := HSM.out.symm
      have hf1 : f = W + 1 := by have := hoff.out; simpa using this
      subst hf1
      go_wp2
      go_meet
      exact ⟨by simp; omega, rfl⟩
  case rest =>
    obtain ⟨rfl, rfl⟩ := hcut
    clear ht3 hm3 hw3 hoff
    have hif : (i : Int) + (f : Int) ≤ 5000 := by omega
    go_upto_if 40 with fail
    have HL2 := Lib.hid (show lo = if decide (level ≤ z) = true then i + f else i by rw [HL.out]; simp only [decide_eq_true_eq])
    have HH2 := Lib.hid (show hi = if decide (level ≤ z) = true then i else i + f by rw [HH.out]; simp only [decide_eq_true_eq])
    generalize decide (level ≤ z) = q at *
    clear HL HH
    generalize wc = w0 at *
    go_cut [7, 8] (fun s7 s8 wd => s7 = .int .i64 (lo : Int) ∧ s8 = .int .i64 (hi : Int) ∧ wd = w0)
    case first =>
      cases q
      · have e1 : lo = i := by have := HL2.out; simpa using this
        have e2 : hi = i + f := by have := HH2.out; simpa using this
        go_wp2
        go_meet
        exact ⟨by rw [e1], by rw [e2]; simp, rfl⟩
      · have e1 : lo = i + f := by have := HL2.out; simpa using this
        have e2 : hi = i := by have := HH2.out; simpa using this
        go_wp2
        go_meet
        exact ⟨by rw [e1]; simp, by rw [e2], rfl⟩
    case rest =>
      obtain ⟨rfl, rfl, rfl⟩ := hcut
      generalize wc = w0 at *
      clear HL2 HH2 gz hif he3 he0 hge hge1 hob d0 d1 d2 d3 d4 d5
      have HRow := Lib.hid fun (W' : World) (hW : Below w0.heap.size w0 W') => hrow.below hW
      have HBp := Lib.hid fun (W' : World) (hW : Below w0.heap.size w0 W') => hbp.below hW
      have HCL := Lib.hid fun (W' : World) (hW : Below w0.heap.size w0 W') => hcl.out W' (hB.trans (hW.mono hB.size))
      have HCH := Lib.hid fun (W' : World) (hW : Below w0.heap.size w0 W') => hch.out W' (hB.trans (hW.mono hB.size))
      have HB := Lib.hid hB
      clear hrow hbp hcl hch hB hR
      go_upto_region 10 with fail
      have hS0 : (fun W' : World => Below w0.heap.size w0 W') w0.drew := (Below.refl _ _).drew
      refine wp_region_held_drew (S := fun W' : World => Below w0.heap.size w0 W') (by kernel_rfl) hS0 (fun hHeld => ?_)
      clear hHeld
      generalize w0.drew = wzra at *
      refine wpAnyH_take (i := 0) (oi := ⟨some 43, _, _, _, _, _⟩) (v := ?vra1) rfl (by kernel_rfl) (by kernel_rfl) (by kernel_rfl) (fun _ _ _ h => h) (Or.inl ⟨by kernel_rfl, ?hyra1⟩) (by assumption) ?restra1
      case hyra1 => (intro W hSw; obtain ⟨d0, d1, d2, d3, d4, d5⟩ := (HRow.out W hSw).cells; dsimp only at d0 d1 d2 d3 d4 d5; (try dsimp only at hSw); go_simp; try with_reducible rfl)
      case' restra1 => try simp only [Act.put, List.setIfInBounds_toArray, List.set_cons_zero, List.set_cons_succ]
      refine wpAnyH_take (i := 1) (oi := ⟨some 44, _, _, _, _, _⟩) (v := ?vra2) rfl (by kernel_rfl) (by kernel_rfl) (by kernel_rfl) (fun _ _ _ h => h) (Or.inl ⟨by kernel_rfl, ?hyra2⟩) (by assumption) ?restra2
      case hyra2 => (intro W hSw; (try dsimp only at hSw); go_simp; try with_reducible rfl)
      case' restra2 => try simp only [Act.put, List.setIfInBounds_toArray, List.set_cons_zero, List.set_cons_succ]
      refine wpAnyH_take (i := 3) (oi := ⟨some 46, _, _, _, _, _⟩) (v := ?vra3) rfl (by kernel_rfl) (by kernel_rfl) (by kernel_rfl) (fun _ _ _ h => h) (Or.inl ⟨by kernel_rfl, ?hyra3⟩) (by assumption) ?restra3
      case hyra3 => (intro W hSw; obtain ⟨d0, d1, d2, d3, d4, d5⟩ := (HRow.out W hSw).cells; dsimp only at d0 d1 d2 d3 d4 d5; (try dsimp only at hSw); go_simp; try with_reducible rfl)
      case' restra3 => try simp only [Act.put, List.setIfInBounds_toArray, List.set_cons_zero, List.set_cons_succ]
      refine wpAnyH_take (i := 4) (oi := ⟨some 47, _, _, _, _, _⟩) (v := ?vra4) rfl (by kernel_rfl) (by kernel_rfl) (by kernel_rfl) (fun _ _ _ h => h) (Or.inl ⟨by kernel_rfl, ?hyra4⟩) (by assumption) ?restra4
      case hyra4 => (intro W hSw; (try dsimp only at hSw); go_simp; try with_reducible rfl)
      case' restra4 => try simp only [Act.put, List.setIfInBounds_toArray, List.set_cons_zero, List.set_cons_succ]
      refine' wpAnyH_share (fun H f l (act : Value → Value → Act) => ∀ (pv1 : Value) (pv2 : Value) (WX : World), BoxV w0.heap.size WX pv1 (0, 0) → BoxV w0.heap.size WX pv2 (0, 0) → NeV WX pv1 pv2 → (fun W' : World => Below w0.heap.size w0 W') WX → H f l (act pv1 pv2) WX) (fun tailra11 => ?mtailra11) ?ttailra11
      case mtailra11 =>
        refine' wpAnyH_share (fun H f l (act : Value → Value → Act) => ∀ (pv1 : Value) (pv2 : Value) (WX : World), BoxV w0.heap.size WX pv1 (0, 0) → BoxV w0.heap.size WX pv2 (0, 0) → NeV WX pv1 pv2 → (fun W' : World => Below w0.heap.size w0 W') WX → H f l (act pv1 pv2) WX) (fun tailra10 => ?mtailra10) ?ttailra10
        case mtailra10 =>
          refine' wpAnyH_share (fun H f l (act : Value → Act) => ∀ (pv2 : Value) (WX : World), BoxV w0.heap.size WX pv2 (0, 0) → (fun W' : World => Below w0.heap.size w0 W') WX → H f l (act pv2) WX) (fun tailra9 => ?mtailra9) ?ttailra9
          case mtailra9 =>
            refine' wpAnyH_share (fun H f l (act : Value → Act) => ∀ (pv1 : Value) (WX : World), BoxV w0.heap.size WX pv1 (0, 0) → (fun W' : World => Below w0.heap.size w0 W') WX → H f l (act pv1) WX) (fun tailra8 => ?mtailra8) ?ttailra8
            case mtailra8 =>
              refine' wpAnyH_share (fun H f l (act : Value → Value → Act) => ∀ (pv1 : Value) (pv2 : Value) (WX : World), BoxV w0.heap.size WX pv1 (0, 0) → BoxV w0.heap.size WX pv2 (0, 0) → NeV WX pv1 pv2 → (fun W' : World => Below w0.heap.size w0 W') WX → H f l (act pv1 pv2) WX) (fun tailra7 => ?mtailra7) ?ttailra7
              case mtailra7 =>
                refine' wpAnyH_share (fun H f l (act : Value → Act) => ∀ (pv2 : Value) (WX : World), BoxV w0.heap.size WX pv2 (0, 0) → (fun W' : World => Below w0.heap.size w0 W') WX → H f l (act pv2) WX) (fun tailra6 => ?mtailra6) ?ttailra6
                case mtailra6 =>
                  refine' wpAnyH_share (fun H f l (act : Value → Act) => ∀ (pv1 : Value) (WX : World), BoxV w0.heap.size WX pv1 (0, 0) → (fun W' : World => Below w0.heap.size w0 W') WX → H f l (act pv1) WX) (fun tailra5 => ?mtailra5) ?ttailra5
                  case mtailra5 =>
                    refine wpAnyH_ready (rs := [2, 6, 7]) (by kernel_rfl) (by simp) ?_
                    refine AllReadyH.cons (o := ⟨some 45, _, _, _, _, _⟩) rfl (fun K hK => ?_) ?_
                    · skip
                      go_simp
                      go_at_call 74
                      refine (cL.out wzra).mono ?_
                      rintro e Wra1 ⟨rfl, hbWra1⟩
                      have hSWra1 := hS0.trans (hbWra1.mono hS0.size)
                      try clear hS0
                      clear hbWra1
                      go_wp2_with fail
                      refine hK.out _ _ hSWra1 (fun hHeld => ?_)
                      clear hK hHeld K
                      try simp only [Act.put, List.setIfInBounds_toArray, List.set_cons_zero, List.set_cons_succ]
                      refine wpAnyH_ready (rs := [5, 6, 7]) (by kernel_rfl) (by simp) ?_
                      refine AllReadyH.cons (o := ⟨some 48, _, _, _, _, _⟩) rfl (fun K hK => ?_) ?_
                      · skip
                        go_simp
                        go_at_call 74
                        refine (cH.out Wra1).mono ?_
                        rintro e Wra2 ⟨rfl, hbWra2⟩
                        have hSWra2 := hSWra1.trans (hbWra2.mono hSWra1.size)
                        try clear hSWra1
                        clear hbWra2
                        go_wp2_with fail
                        refine hK.out _ _ hSWra2 (fun hHeld => ?_)
                        clear hK hHeld K
                        try simp only [Act.put, List.setIfInBounds_toArray, List.set_cons_zero, List.set_cons_succ]
                        refine wpAnyH_ready (rs := [6, 7]) (by kernel_rfl) (by simp) ?_
                        refine AllReadyH.cons (o := ⟨some 9, _, _, _, _, _⟩) rfl (fun K hK => ?_) ?_
                        · skip
                          go_simp
                          have hx1 := BoxV.new Wra2 hSWra2.size
                          have hSWra3 := hSWra2.alloc hSWra2.size (.cells #[.int .i64 0, .int .i64 0] 23)
                          refine hK.out _ _ hSWra3 (fun hHeld => ?_)
                          clear hK hHeld K
                          try clear hSWra2
                          try simp only [Act.put, List.setIfInBounds_toArray, List.set_cons_zero, List.set_cons_succ]
                          generalize (Wra2.alloc (.cells #[.int .i64 0, .int .i64 0] 23)) = Wra3 at hx1 hSWra3 ⊢
                          generalize Value.pointer (some ⟨Wra2.heap.size, 0, none⟩) = pv1 at hx1 ⊢
                          exact wpAnyH_cast rfl rfl (tailra8 pv1 Wra3 hx1 hSWra3)
                        refine AllReadyH.cons (o := ⟨some 10, _, _, _, _, _⟩) rfl (fun K hK => ?_) AllReadyH.nil
                        go_simp
                        have hx2 := BoxV.new Wra2 hSWra2.size
                        have hSWra4 := hSWra2.alloc hSWra2.size (.cells #[.int .i64 0, .int .i64 0] 23)
                        refine hK.out _ _ hSWra4 (fun hHeld => ?_)
                        clear hK hHeld K
                        try clear hSWra2
                        try simp only [Act.put, List.setIfInBounds_toArray, List.set_cons_zero, List.set_cons_succ]
                        generalize (Wra2.alloc (.cells #[.int .i64 0, .int .i64 0] 23)) = Wra4 at hx2 hSWra4 ⊢
                        generalize Value.pointer (some ⟨Wra2.heap.size, 0, none⟩) = pv2 at hx2 ⊢
                        exact wpAnyH_cast rfl rfl (tailra9 pv2 Wra4 hx2 hSWra4)
                      refine AllReadyH.cons (o := ⟨some 9, _, _, _, _, _⟩) rfl (fun K hK => ?_) ?_
                      · skip
                        go_simp
                        have hx1 := BoxV.new Wra1 hSWra1.size
                        have hSWra5 := hSWra1.alloc hSWra1.size (.cells #[.int .i64 0, .int .i64 0] 23)
                        refine hK.out _ _ hSWra5 (fun hHeld => ?_)
                        clear hK hHeld K
                        try clear hSWra1
                        try simp only [Act.put, List.setIfInBounds_toArray, List.set_cons_zero, List.set_cons_succ]
                        generalize (Wra1.alloc (.cells #[.int .i64 0, .int .i64 0] 23)) = Wra5 at hx1 hSWra5 ⊢
                        generalize Value.pointer (some ⟨Wra1.heap.size, 0, none⟩) = pv1 at hx1 ⊢
                        exact wpAnyH_cast rfl rfl (tailra5 pv1 Wra5 hx1 hSWra5)
                      refine AllReadyH.cons (o := ⟨some 10, _, _, _, _, _⟩) rfl (fun K hK => ?_) AllReadyH.nil
                      go_simp
                      have hx2 := BoxV.new Wra1 hSWra1.size
                      have hSWra6 := hSWra1.alloc hSWra1.size (.cells #[.int .i64 0, .int .i64 0] 23)
                      refine hK.out _ _ hSWra6 (fun hHeld => ?_)
                      clear hK hHeld K
                      try clear hSWra1
                      try simp only [Act.put, List.setIfInBounds_toArray, List.set_cons_zero, List.set_cons_succ]
                      generalize (Wra1.alloc (.cells #[.int .i64 0, .int .i64 0] 23)) = Wra6 at hx2 hSWra6 ⊢
                      generalize Value.pointer (some ⟨Wra1.heap.size, 0, none⟩) = pv2 at hx2 ⊢
                      exact wpAnyH_cast rfl rfl (tailra6 pv2 Wra6 hx2 hSWra6)
                    refine AllReadyH.cons (o := ⟨some 9, _, _, _, _, _⟩) rfl (fun K hK => ?_) ?_
                    · skip
                      go_simp
                      have hx1 := BoxV.new wzra hS0.size
                      have hSWra7 := hS0.alloc hS0.size (.cells #[.int .i64 0, .int .i64 0] 23)
                      refine hK.out _ _ hSWra7 (fun hHeld => ?_)
                      clear hK hHeld K
                      try clear hS0
                      try simp only [Act.put, List.setIfInBounds_toArray, List.set_cons_zero, List.set_cons_succ]
                      generalize (wzra.alloc (.cells #[.int .i64 0, .int .i64 0] 23)) = Wra7 at hx1 hSWra7 ⊢
                      generalize Value.pointer (some ⟨wzra.heap.size, 0, none⟩) = pv1 at hx1 ⊢
                      refine wpAnyH_ready (rs := [2, 7]) (by kernel_rfl) (by simp) ?_
                      refine AllReadyH.cons (o := ⟨some 45, _, _, _, _, _⟩) rfl (fun K hK => ?_) ?_
                      · skip
                        go_simp
                        go_at_call 74
                        refine (cL.out Wra7).mono ?_
                        rintro e Wra8 ⟨rfl, hbWra8⟩
                        replace hx1 := hx1.belowR hbWra8
                        have hSWra8 := hSWra7.trans (hbWra8.mono hSWra7.size)
                        try clear hSWra7
                        clear hbWra8
                        go_wp2_with fail
                        refine hK.out _ _ hSWra8 (fun hHeld => ?_)
                        clear hK hHeld K
                        try simp only [Act.put, List.setIfInBounds_toArray, List.set_cons_zero, List.set_cons_succ]
                        exact wpAnyH_cast (by kernel_rfl) (by kernel_rfl) (tailra5 pv1 Wra8 hx1 hSWra8)
                      refine AllReadyH.cons (o := ⟨some 10, _, _, _, _, _⟩) rfl (fun K hK => ?_) AllReadyH.nil
                      go_simp
                      have hx2 := BoxV.new Wra7 hSWra7.size
                      have hne := NeV.new2 hx1 (.cells #[.int .i64 0, .int .i64 0] 23)
                      replace hx1 := hx1.alloc (.cells #[.int .i64 0, .int .i64 0] 23)
                      have hSWra9 := hSWra7.alloc hSWra7.size (.cells #[.int .i64 0, .int .i64 0] 23)
                      refine hK.out _ _ hSWra9 (fun hHeld => ?_)
                      clear hK hHeld K
                      try clear hSWra7
                      try simp only [Act.put, List.setIfInBounds_toArray, List.set_cons_zero, List.set_cons_succ]
                      generalize (Wra7.alloc (.cells #[.int .i64 0, .int .i64 0] 23)) = Wra9 at hx2 hne hx1 hSWra9 ⊢
                      generalize Value.pointer (some ⟨Wra7.heap.size, 0, none⟩) = pv2 at hx2 hne ⊢
                      exact wpAnyH_cast rfl rfl (tailra7 pv1 pv2 Wra9 hx1 hx2 hne hSWra9)
                    refine AllReadyH.cons (o := ⟨some 10, _, _, _, _, _⟩) rfl (fun K hK => ?_) AllReadyH.nil
                    go_simp
                    have hx2 := BoxV.new wzra hS0.size
                    have hSWra10 := hS0.alloc hS0.size (.cells #[.int .i64 0, .int .i64 0] 23)
                    refine hK.out _ _ hSWra10 (fun hHeld => ?_)
                    clear hK hHeld K
                    try clear hS0
                    try simp only [Act.put, List.setIfInBounds_toArray, List.set_cons_zero, List.set_cons_succ]
                    generalize (wzra.alloc (.cells #[.int .i64 0, .int .i64 0] 23)) = Wra10 at hx2 hSWra10 ⊢
                    generalize Value.pointer (some ⟨wzra.heap.size, 0, none⟩) = pv2 at hx2 ⊢
                    refine wpAnyH_ready (rs := [2, 6]) (by kernel_rfl) (by simp) ?_
                    refine AllReadyH.cons (o := ⟨some 45, _, _, _, _, _⟩) rfl (fun K hK => ?_) ?_
                    · skip
                      go_simp
                      go_at_call 74
                      refine (cL.out Wra10).mono ?_
                      rintro e Wra11 ⟨rfl, hbWra11⟩
                      replace hx2 := hx2.belowR hbWra11
                      have hSWra11 := hSWra10.trans (hbWra11.mono hSWra10.size)
                      try clear hSWra10
                      clear hbWra11
                      go_wp2_with fail
                      refine hK.out _ _ hSWra11 (fun hHeld => ?_)
                      clear hK hHeld K
                      try simp only [Act.put, List.setIfInBounds_toArray, List.set_cons_zero, List.set_cons_succ]
                      exact wpAnyH_cast (by kernel_rfl) (by kernel_rfl) (tailra6 pv2 Wra11 hx2 hSWra11)
                    refine AllReadyH.cons (o := ⟨some 9, _, _, _, _, _⟩) rfl (fun K hK => ?_) AllReadyH.nil
                    go_simp
                    have hx1 := BoxV.new Wra10 hSWra10.size
                    have hne := NeV.new1 hx2 (.cells #[.int .i64 0, .int .i64 0] 23)
                    replace hx2 := hx2.alloc (.cells #[.int .i64 0, .int .i64 0] 23)
                    have hSWra12 := hSWra10.alloc hSWra10.size (.cells #[.int .i64 0, .int .i64 0] 23)
                    refine hK.out _ _ hSWra12 (fun hHeld => ?_)
                    clear hK hHeld K
                    try clear hSWra10
                    try simp only [Act.put, List.setIfInBounds_toArray, List.set_cons_zero, List.set_cons_succ]
                    generalize (Wra10.alloc (.cells #[.int .i64 0, .int .i64 0] 23)) = Wra12 at hx1 hne hx2 hSWra12 ⊢
                    generalize Value.pointer (some ⟨Wra10.heap.size, 0, none⟩) = pv1 at hx1 hne ⊢
                    exact wpAnyH_cast (by kernel_rfl) (by kernel_rfl) (tailra7 pv1 pv2 Wra12 hx1 hx2 hne hSWra12)
                  case ttailra5 =>
                    try clear hS0
                    intro pv1 Wra13 hx1 hSWra13
                    refine wpAnyH_ready (rs := [5, 7]) (by kernel_rfl) (by simp) ?_
                    refine AllReadyH.cons (o := ⟨some 48, _, _, _, _, _⟩) rfl (fun K hK => ?_) ?_
                    · skip
                      go_simp
                      go_at_call 74
                      refine (cH.out Wra13).mono ?_
                      rintro e Wra14 ⟨rfl, hbWra14⟩
                      replace hx1 := hx1.belowR hbWra14
                      have hSWra14 := hSWra13.trans (hbWra14.mono hSWra13.size)
                      try clear hSWra13
                      clear hbWra14
                      go_wp2_with fail
                      refine hK.out _ _ hSWra14 (fun hHeld => ?_)
                      clear hK hHeld K
                      try simp only [Act.put, List.setIfInBounds_toArray, List.set_cons_zero, List.set_cons_succ]
                      exact wpAnyH_cast (by kernel_rfl) (by kernel_rfl) (tailra8 pv1 Wra14 hx1 hSWra14)
                    refine AllReadyH.cons (o := ⟨some 10, _, _, _, _, _⟩) rfl (fun K hK => ?_) AllReadyH.nil
                    go_simp
                    have hx2 := BoxV.new Wra13 hSWra13.size
                    have hne := NeV.new2 hx1 (.cells #[.int .i64 0, .int .i64 0] 23)
                    replace hx1 := hx1.alloc (.cells #[.int .i64 0, .int .i64 0] 23)
                    have hSWra15 := hSWra13.alloc hSWra13.size (.cells #[.int .i64 0, .int .i64 0] 23)
                    refine hK.out _ _ hSWra15 (fun hHeld => ?_)
                    clear hK hHeld K
                    try clear hSWra13
                    try simp only [Act.put, List.setIfInBounds_toArray, List.set_cons_zero, List.set_cons_succ]
                    generalize (Wra13.alloc (.cells #[.int .i64 0, .int .i64 0] 23)) = Wra15 at hx2 hne hx1 hSWra15 ⊢
                    generalize Value.pointer (some ⟨Wra13.heap.size, 0, none⟩) = pv2 at hx2 hne ⊢
                    exact wpAnyH_cast rfl rfl (tailra10 pv1 pv2 Wra15 hx1 hx2 hne hSWra15)
                case ttailra6 =>
                  try clear hS0
                  intro pv2 Wra16 hx2 hSWra16
                  refine wpAnyH_ready (rs := [5, 6]) (by kernel_rfl) (by simp) ?_
                  refine AllReadyH.cons (o := ⟨some 48, _, _, _, _, _⟩) rfl (fun K hK => ?_) ?_
                  · skip
                    go_simp
                    go_at_call 74
                    refine (cH.out Wra16).mono ?_
                    rintro e Wra17 ⟨rfl, hbWra17⟩
                    replace hx2 := hx2.belowR hbWra17
                    have hSWra17 := hSWra16.trans (hbWra17.mono hSWra16.size)
                    try clear hSWra16
                    clear hbWra17
                    go_wp2_with fail
                    refine hK.out _ _ hSWra17 (fun hHeld => ?_)
                    clear hK hHeld K
                    try simp only [Act.put, List.setIfInBounds_toArray, List.set_cons_zero, List.set_cons_succ]
                    exact wpAnyH_cast (by kernel_rfl) (by kernel_rfl) (tailra9 pv2 Wra17 hx2 hSWra17)
                  refine AllReadyH.cons (o := ⟨some 9, _, _, _, _, _⟩) rfl (fun K hK => ?_) AllReadyH.nil
                  go_simp
                  have hx1 := BoxV.new Wra16 hSWra16.size
                  have hne := NeV.new1 hx2 (.cells #[.int .i64 0, .int .i64 0] 23)
                  replace hx2 := hx2.alloc (.cells #[.int .i64 0, .int .i64 0] 23)
                  have hSWra18 := hSWra16.alloc hSWra16.size (.cells #[.int .i64 0, .int .i64 0] 23)
                  refine hK.out _ _ hSWra18 (fun hHeld => ?_)
                  clear hK hHeld K
                  try clear hSWra16
                  try simp only [Act.put, List.setIfInBounds_toArray, List.set_cons_zero, List.set_cons_succ]
                  generalize (Wra16.alloc (.cells #[.int .i64 0, .int .i64 0] 23)) = Wra18 at hx1 hne hx2 hSWra18 ⊢
                  generalize Value.pointer (some ⟨Wra16.heap.size, 0, none⟩) = pv1 at hx1 hne ⊢
                  exact wpAnyH_cast (by kernel_rfl) (by kernel_rfl) (tailra10 pv1 pv2 Wra18 hx1 hx2 hne hSWra18)
              case ttailra7 =>
                try clear hS0
                intro pv1 pv2 Wra19 hx1 hx2 hne hSWra19
                refine wpAnyH_ready (rs := [2]) (by kernel_rfl) (by simp) ?_
                refine AllReadyH.cons (o := ⟨some 45, _, _, _, _, _⟩) rfl (fun K hK => ?_) AllReadyH.nil
                go_simp
                go_at_call 74
                refine (cL.out Wra19).mono ?_
                rintro e Wra20 ⟨rfl, hbWra20⟩
                replace hx1 := hx1.belowR hbWra20
                replace hx2 := hx2.belowR hbWra20
                replace hne := hne.belowR hbWra20
                have hSWra20 := hSWra19.trans (hbWra20.mono hSWra19.size)
                try clear hSWra19
                clear hbWra20
                go_wp2_with fail
                refine hK.out _ _ hSWra20 (fun hHeld => ?_)
                clear hK hHeld K
                try simp only [Act.put, List.setIfInBounds_toArray, List.set_cons_zero, List.set_cons_succ]
                exact wpAnyH_cast (by kernel_rfl) (by kernel_rfl) (tailra10 pv1 pv2 Wra20 hx1 hx2 hne hSWra20)
            case ttailra8 =>
              try clear hS0
              intro pv1 Wra21 hx1 hSWra21
              refine wpAnyH_ready (rs := [7]) (by kernel_rfl) (by simp) ?_
              refine AllReadyH.cons (o := ⟨some 10, _, _, _, _, _⟩) rfl (fun K hK => ?_) AllReadyH.nil
              go_simp
              have hx2 := BoxV.new Wra21 hSWra21.size
              have hne := NeV.new2 hx1 (.cells #[.int .i64 0, .int .i64 0] 23)
              replace hx1 := hx1.alloc (.cells #[.int .i64 0, .int .i64 0] 23)
              have hSWra22 := hSWra21.alloc hSWra21.size (.cells #[.int .i64 0, .int .i64 0] 23)
              refine hK.out _ _ hSWra22 (fun hHeld => ?_)
              clear hK hHeld K
              try clear hSWra21
              try simp only [Act.put, List.setIfInBounds_toArray, List.set_cons_zero, List.set_cons_succ]
              generalize (Wra21.alloc (.cells #[.int .i64 0, .int .i64 0] 23)) = Wra22 at hx2 hne hx1 hSWra22 ⊢
              generalize Value.pointer (some ⟨Wra21.heap.size, 0, none⟩) = pv2 at hx2 hne ⊢
              exact wpAnyH_cast rfl rfl (tailra11 pv1 pv2 Wra22 hx1 hx2 hne hSWra22)
          case ttailra9 =>
            try clear hS0
            intro pv2 Wra23 hx2 hSWra23
            refine wpAnyH_ready (rs := [6]) (by kernel_rfl) (by simp) ?_
            refine AllReadyH.cons (o := ⟨some 9, _, _, _, _, _⟩) rfl (fun K hK => ?_) AllReadyH.nil
            go_simp
            have hx1 := BoxV.new Wra23 hSWra23.size
            have hne := NeV.new1 hx2 (.cells #[.int .i64 0, .int .i64 0] 23)
            replace hx2 := hx2.alloc (.cells #[.int .i64 0, .int .i64 0] 23)
            have hSWra24 := hSWra23.alloc hSWra23.size (.cells #[.int .i64 0, .int .i64 0] 23)
            refine hK.out _ _ hSWra24 (fun hHeld => ?_)
            clear hK hHeld K
            try clear hSWra23
            try simp only [Act.put, List.setIfInBounds_toArray, List.set_cons_zero, List.set_cons_succ]
            generalize (Wra23.alloc (.cells #[.int .i64 0, .int .i64 0] 23)) = Wra24 at hx1 hne hx2 hSWra24 ⊢
            generalize Value.pointer (some ⟨Wra23.heap.size, 0, none⟩) = pv1 at hx1 hne ⊢
            exact wpAnyH_cast (by kernel_rfl) (by kernel_rfl) (tailra11 pv1 pv2 Wra24 hx1 hx2 hne hSWra24)
        case ttailra10 =>
          try clear hS0
          intro pv1 pv2 Wra25 hx1 hx2 hne hSWra25
          refine wpAnyH_ready (rs := [5]) (by kernel_rfl) (by simp) ?_
          refine AllReadyH.cons (o := ⟨some 48, _, _, _, _, _⟩) rfl (fun K hK => ?_) AllReadyH.nil
          go_simp
          go_at_call 74
          refine (cH.out Wra25).mono ?_
          rintro e Wra26 ⟨rfl, hbWra26⟩
          replace hx1 := hx1.belowR hbWra26
          replace hx2 := hx2.belowR hbWra26
          replace hne := hne.belowR hbWra26
          have hSWra26 := hSWra25.trans (hbWra26.mono hSWra25.size)
          try clear hSWra25
          clear hbWra26
          go_wp2_with fail
          refine hK.out _ _ hSWra26 (fun hHeld => ?_)
          clear hK hHeld K
          try simp only [Act.put, List.setIfInBounds_toArray, List.set_cons_zero, List.set_cons_succ]
          exact wpAnyH_cast (by kernel_rfl) (by kernel_rfl) (tailra11 pv1 pv2 Wra26 hx1 hx2 hne hSWra26)
      case ttailra11 =>
        try clear hS0
        intro pv1 pv2 Wra27 hx1 hx2 hne hSWra27
        refine wpAnyH_ready (rs := [8]) (by kernel_rfl) (by simp) ?_
        refine AllReadyH.cons (o := ⟨none, _, _, _, _, _⟩) rfl (fun K hK => ?_) AllReadyH.nil
        refine BoxV.store hx1 (p1x, p1y) rfl _ _ rfl rfl rfl (fun Wra28 hbx hbo hbW => ?_)
        have hSWra28 := hSWra27.trans hbW
        have hox := hbo _ _ (Ne.symm hne) hx2
        clear hx1 hx2 hbW hbo hSWra27
        have hx1 := hbx
        have hx2 := hox
        clear hbx hox
        refine hK.out _ _ hSWra28 (fun hHeld => ?_)
        clear hK hHeld K
        try simp only [Act.put, List.setIfInBounds_toArray, List.set_cons_zero, List.set_cons_succ]
        refine wpAnyH_ready (rs := [9]) (by kernel_rfl) (by simp) ?_
        refine AllReadyH.cons (o := ⟨none, _, _, _, _, _⟩) rfl (fun K hK => ?_) AllReadyH.nil
        refine BoxV.store hx2 (p2x, p2y) rfl _ _ rfl rfl rfl (fun Wra29 hbx hbo hbW => ?_)
        have hSWra29 := hSWra28.trans hbW
        have hox := hbo _ _ hne hx1
        clear hx2 hx1 hbW hbo hSWra28
        have hx2 := hbx
        have hx1 := hox
        clear hbx hox
        refine hK.out _ _ hSWra29 (fun hHeld => ?_)
        clear hK hHeld K
        try simp only [Act.put, List.setIfInBounds_toArray, List.set_cons_zero, List.set_cons_succ]
        refine wpAnyH_done (by kernel_rfl) ?_ _
        obtain ⟨n1', rfl, hn1, bx1⟩ := hx1
        obtain ⟨n2', rfl, hn2, bx2⟩ := hx2
        clear hne
        have HX1 := Lib.hid fun (W' : World) (hW : Below Wra29.heap.size Wra29 W') => bx1.below hW
        have HX2 := Lib.hid fun (W' : World) (hW : Below Wra29.heap.size Wra29 W') => bx2.below hW
        have HBk := Lib.hid hSWra29
        have HRow0 := Lib.hid fun (W' : World) (hW : Below Wra29.heap.size Wra29 W') => HRow.out W' (HBk.out.trans (hW.mono HBk.out.size))
        have HCL0 := Lib.hid fun (W' : World) (hW : Below Wra29.heap.size Wra29 W') => HCL.out W' (HBk.out.trans (hW.mono HBk.out.size))
        have HCH0 := Lib.hid fun (W' : World) (hW : Below Wra29.heap.size Wra29 W') => HCH.out W' (HBk.out.trans (hW.mono HBk.out.size))
        clear bx1 bx2 hSWra29 HRow cL cH HCL HCH
        generalize Wra29 = w1 at *
        have HRow := Lib.hid fun (W' : World) (hW : Below w1.heap.size w1 W') => HBp.out W' (HBk.out.trans (hW.mono HBk.out.size))
        have k1 : Below w1.heap.size w1 w1 := Below.refl _ _
        go_upto_region 11 with fail
        have hSrb0 : (fun W' : World => Below w1.heap.size w1 W') w1.drew := k1.drew
        refine wp_region_held_drew (S := fun W' : World => Below w1.heap.size w1 W') (by kernel_rfl) hSrb0 (fun hHeld => ?_)
        clear hHeld k1
        generalize w1.drew = wzrb at *
        refine wpAnyH_take (i := 0) (oi := ⟨some 50, _, _, _, _, _⟩) (v := ?vrb1) rfl (by kernel_rfl) (by kernel_rfl) (by kernel_rfl) (fun _ _ _ h => h) (Or.inl ⟨by kernel_rfl, ?hyrb1⟩) (by assumption) ?restrb1
        case hyrb1 => (intro W hSw; (try dsimp only at hSw); go_simp; try with_reducible rfl)
        case' restrb1 => try simp only [Act.put, List.setIfInBounds_toArray, List.set_cons_zero, List.set_cons_succ]
        refine wpAnyH_take (i := 1) (oi := ⟨some 51, _, _, _, _, _⟩) (v := ?vrb2) rfl (by kernel_rfl) (by kernel_rfl) (by kernel_rfl) (fun _ _ _ h => h) (Or.inl ⟨by kernel_rfl, ?hyrb2⟩) (by assumption) ?restrb2
        case hyrb2 => (intro W hSw; obtain ⟨j1, j2, j3, j4, j5⟩ := (HX2.out W hSw).cel; dsimp only at j1 j2; (try dsimp only at hSw); go_simp; try with_reducible rfl)
        case' restrb2 => try simp only [Act.put, List.setIfInBounds_toArray, List.set_cons_zero, List.set_cons_succ]
        refine wpAnyH_take (i := 2) (oi := ⟨some 52, _, _, _, _, _⟩) (v := ?vrb3) rfl (by kernel_rfl) (by kernel_rfl) (by kernel_rfl) (fun _ _ _ h => h) (Or.inl ⟨by kernel_rfl, ?hyrb3⟩) (by assumption) ?restrb3
        case hyrb3 => (intro W hSw; (try dsimp only at hSw); go_simp; try with_reducible rfl)
        case' restrb3 => try simp only [Act.put, List.setIfInBounds_toArray, List.set_cons_zero, List.set_cons_succ]
        refine wpAnyH_take (i := 3) (oi := ⟨some 53, _, _, _, _, _⟩) (v := ?vrb4) rfl (by kernel_rfl) (by kernel_rfl) (by kernel_rfl) (fun _ _ _ h => h) (Or.inl ⟨by kernel_rfl, ?hyrb4⟩) (by assumption) ?restrb4
        case hyrb4 => (intro W hSw; obtain ⟨j1, j2, j3, j4, j5⟩ := (HX1.out W hSw).cel; dsimp only at j1 j2; (try dsimp only at hSw); go_simp; try with_reducible rfl)
        case' restrb4 => try simp only [Act.put, List.setIfInBounds_toArray, List.set_cons_zero, List.set_cons_succ]
        refine wpAnyH_take (i := 4) (oi := ⟨some 54, _, _, _, _, _⟩) (v := ?vrb5) rfl (by kernel_rfl) (by kernel_rfl) (by kernel_rfl) (fun _ _ _ h => h) (Or.inl ⟨by kernel_rfl, ?hyrb5⟩) (by assumption) ?restrb5
        case hyrb5 => (intro W hSw; (try dsimp only at hSw); go_simp; try with_reducible rfl)
        case' restrb5 => try simp only [Act.put, List.setIfInBounds_toArray, List.set_cons_zero, List.set_cons_succ]
        refine wpAnyH_take (i := 5) (oi := ⟨some 55, _, _, _, _, _⟩) (v := ?vrb6) rfl (by kernel_rfl) (by kernel_rfl) (by kernel_rfl) (fun _ _ _ h => h) (Or.inl ⟨by kernel_rfl, ?hyrb6⟩) (by assumption) ?restrb6
        case hyrb6 => (intro W hSw; (try dsimp only at hSw); go_simp; try with_reducible rfl)
        case' restrb6 => try simp only [Act.put, List.setIfInBounds_toArray, List.set_cons_zero, List.set_cons_succ]
        refine wpAnyH_take (i := 6) (oi := ⟨some 56, _, _, _, _, _⟩) (v := ?vrb7) rfl (by kernel_rfl) (by kernel_rfl) (by kernel_rfl) (fun _ _ _ h => h) (Or.inl ⟨by kernel_rfl, ?hyrb7⟩) (by assumption) ?restrb7
        case hyrb7 => (intro W hSw; (try dsimp only at hSw); go_simp; try with_reducible rfl)
        case' restrb7 => try simp only [Act.put, List.setIfInBounds_toArray, List.set_cons_zero, List.set_cons_succ]
        refine wpAnyH_take (i := 7) (oi := ⟨some 57, _, _, _, _, _⟩) (v := ?vrb8) rfl (by kernel_rfl) (by kernel_rfl) (by kernel_rfl) (fun _ _ _ h => h) (Or.inl ⟨by kernel_rfl, ?hyrb8⟩) (by assumption) ?restrb8
        case hyrb8 => (intro W hSw; obtain ⟨d0, d1, d2, d3, d4, d5⟩ := (HRow0.out W hSw).cells; dsimp only at d0 d1 d2 d3 d4 d5; (try dsimp only at hSw); go_simp; try with_reducible rfl)
        case' restrb8 => try simp only [Act.put, List.setIfInBounds_toArray, List.set_cons_zero, List.set_cons_succ]
        refine wpAnyH_take (i := 8) (oi := ⟨some 58, _, _, _, _, _⟩) (v := ?vrb9) rfl (by kernel_rfl) (by kernel_rfl) (by kernel_rfl) (fun _ _ _ h => h) (Or.inl ⟨by kernel_rfl, ?hyrb9⟩) (by assumption) ?restrb9
        case hyrb9 => (intro W hSw; (try dsimp only at hSw); go_simp; try with_reducible rfl)
        case' restrb9 => try simp only [Act.put, List.setIfInBounds_toArray, List.set_cons_zero, List.set_cons_succ]
        refine wpAnyH_take (i := 9) (oi := ⟨some 59, _, _, _, _, _⟩) (v := ?vrb10) rfl (by kernel_rfl) (by kernel_rfl) (by kernel_rfl) (fun _ _ _ h => h) (Or.inl ⟨by kernel_rfl, ?hyrb10⟩) (by assumption) ?restrb10
        case hyrb10 => (intro W hSw; (try dsimp only at hSw); go_simp; try with_reducible rfl)
        case' restrb10 => try simp only [Act.put, List.setIfInBounds_toArray, List.set_cons_zero, List.set_cons_succ]
        refine wpAnyH_take (i := 10) (oi := ⟨some 60, _, _, _, _, _⟩) (v := ?vrb11) rfl (by kernel_rfl) (by kernel_rfl) (by kernel_rfl) (fun _ _ _ h => h) (Or.inl ⟨by kernel_rfl, ?hyrb11⟩) (by assumption) ?restrb11
        case hyrb11 => (intro W hSw; have g1 := HCL0.out W hSw; (try dsimp only at hSw); go_simp; try with_reducible rfl)
        case' restrb11 => try simp only [Act.put, List.setIfInBounds_toArray, List.set_cons_zero, List.set_cons_succ]
        refine wpAnyH_take (i := 11) (oi := ⟨some 61, _, _, _, _, _⟩) (v := ?vrb12) rfl (by kernel_rfl) (by kernel_rfl) (by kernel_rfl) (fun _ _ _ h => h) (Or.inl ⟨by kernel_rfl, ?hyrb12⟩) (by assumption) ?restrb12
        case hyrb12 => (intro W hSw; (try dsimp only at hSw); go_simp; try with_reducible rfl)
        case' restrb12 => try simp only [Act.put, List.setIfInBounds_toArray, List.set_cons_zero, List.set_cons_succ]
        refine wpAnyH_take (i := 12) (oi := ⟨some 62, _, _, _, _, _⟩) (v := ?vrb13) rfl (by kernel_rfl) (by kernel_rfl) (by kernel_rfl) (fun _ _ _ h => h) (Or.inl ⟨by kernel_rfl, ?hyrb13⟩) (by assumption) ?restrb13
        case hyrb13 => (intro W hSw; (try dsimp only at hSw); go_simp; try with_reducible rfl)
        case' restrb13 => try simp only [Act.put, List.setIfInBounds_toArray, List.set_cons_zero, List.set_cons_succ]
        refine wpAnyH_take (i := 13) (oi := ⟨some 63, _, _, _, _, _⟩) (v := ?vrb14) rfl (by kernel_rfl) (by kernel_rfl) (by kernel_rfl) (fun _ _ _ h => h) (Or.inl ⟨by kernel_rfl, ?hyrb14⟩) (by assumption) ?restrb14
        case hyrb14 => (intro W hSw; (try dsimp only at hSw); go_simp; try with_reducible rfl)
        case' restrb14 => try simp only [Act.put, List.setIfInBounds_toArray, List.set_cons_zero, List.set_cons_succ]
        refine wpAnyH_take (i := 14) (oi := ⟨some 64, _, _, _, _, _⟩) (v := ?vrb15) rfl (by kernel_rfl) (by kernel_rfl) (by kernel_rfl) (fun _ _ _ h => h) (Or.inl ⟨by kernel_rfl, ?hyrb15⟩) (by assumption) ?restrb15
        case hyrb15 => (intro W hSw; obtain ⟨d0, d1, d2, d3, d4, d5⟩ := (HRow0.out W hSw).cells; dsimp only at d0 d1 d2 d3 d4 d5; (try dsimp only at hSw); go_simp; try with_reducible rfl)
        case' restrb15 => try simp only [Act.put, List.setIfInBounds_toArray, List.set_cons_zero, List.set_cons_succ]
        refine wpAnyH_take (i := 15) (oi := ⟨some 65, _, _, _, _, _⟩) (v := ?vrb16) rfl (by kernel_rfl) (by kernel_rfl) (by kernel_rfl) (fun _ _ _ h => h) (Or.inl ⟨by kernel_rfl, ?hyrb16⟩) (by assumption) ?restrb16
        case hyrb16 => (intro W hSw; (try dsimp only at hSw); go_simp; try with_reducible rfl)
        case' restrb16 => try simp only [Act.put, List.setIfInBounds_toArray, List.set_cons_zero, List.set_cons_succ]
        refine wpAnyH_take (i := 16) (oi := ⟨some 66, _, _, _, _, _⟩) (v := ?vrb17) rfl (by kernel_rfl) (by kernel_rfl) (by kernel_rfl) (fun _ _ _ h => h) (Or.inl ⟨by kernel_rfl, ?hyrb17⟩) (by assumption) ?restrb17
        case hyrb17 => (intro W hSw; (try dsimp only at hSw); go_simp; try with_reducible rfl)
        case' restrb17 => try simp only [Act.put, List.setIfInBounds_toArray, List.set_cons_zero, List.set_cons_succ]
        refine wpAnyH_take (i := 17) (oi := ⟨some 67, _, _, _, _, _⟩) (v := ?vrb18) rfl (by kernel_rfl) (by kernel_rfl) (by kernel_rfl) (fun _ _ _ h => h) (Or.inl ⟨by kernel_rfl, ?hyrb18⟩) (by assumption) ?restrb18
        case hyrb18 => (intro W hSw; have g1 := HCH0.out W hSw; (try dsimp only at hSw); go_simp; try with_reducible rfl)
        case' restrb18 => try simp only [Act.put, List.setIfInBounds_toArray, List.set_cons_zero, List.set_cons_succ]
        refine wpAnyH_take (i := 18) (oi := ⟨some 68, _, _, _, _, _⟩) (v := ?vrb19) rfl (by kernel_rfl) (by kernel_rfl) (by kernel_rfl) (fun _ _ _ h => h) (Or.inl ⟨by kernel_rfl, ?hyrb19⟩) (by assumption) ?restrb19
        case hyrb19 => (intro W hSw; (try dsimp only at hSw); go_simp; try with_reducible rfl)
        case' restrb19 => try simp only [Act.put, List.setIfInBounds_toArray, List.set_cons_zero, List.set_cons_succ]
        refine wpAnyH_take (i := 19) (oi := ⟨some 69, _, _, _, _, _⟩) (v := ?vrb20) rfl (by kernel_rfl) (by kernel_rfl) (by kernel_rfl) (fun _ _ _ h => h) (Or.inl ⟨by kernel_rfl, ?hyrb20⟩) (by assumption) ?restrb20
        case hyrb20 => (intro W hSw; obtain ⟨d0, d1, d2, d3, d4, d5⟩ := (HRow0.out W hSw).cells; dsimp only at d0 d1 d2 d3 d4 d5; (try dsimp only at hSw); go_simp; try with_reducible rfl)
        case' restrb20 => try simp only [Act.put, List.setIfInBounds_toArray, List.set_cons_zero, List.set_cons_succ]
        refine wpAnyH_take (i := 20) (oi := ⟨some 70, _, _, _, _, _⟩) (v := ?vrb21) rfl (by kernel_rfl) (by kernel_rfl) (by kernel_rfl) (fun _ _ _ h => h) (Or.inl ⟨by kernel_rfl, ?hyrb21⟩) (by assumption) ?restrb21
        case hyrb21 => (intro W hSw; (try dsimp only at hSw); go_simp; try with_reducible rfl)
        case' restrb21 => try simp only [Act.put, List.setIfInBounds_toArray, List.set_cons_zero, List.set_cons_succ]
        refine wpAnyH_take (i := 21) (oi := ⟨some 71, _, _, _, _, _⟩) (v := ?vrb22) rfl (by kernel_rfl) (by kernel_rfl) (by kernel_rfl) (fun _ _ _ h => h) (Or.inl ⟨by kernel_rfl, ?hyrb22⟩) (by assumption) ?restrb22
        case hyrb22 => (intro W hSw; (try dsimp only at hSw); go_simp; try with_reducible rfl)
        case' restrb22 => try simp only [Act.put, List.setIfInBounds_toArray, List.set_cons_zero, List.set_cons_succ]
        refine wpAnyH_take (i := 22) (oi := ⟨some 72, _, _, _, _, _⟩) (v := ?vrb23) rfl (by kernel_rfl) (by kernel_rfl) (by kernel_rfl) (fun _ _ _ h => h) (Or.inl ⟨by kernel_rfl, ?hyrb23⟩) (by assumption) ?restrb23
        case hyrb23 => (intro W hSw; have g1 := HCL0.out W hSw; (try dsimp only at hSw); go_simp; try with_reducible rfl)
        case' restrb23 => try simp only [Act.put, List.setIfInBounds_toArray, List.set_cons_zero, List.set_cons_succ]
        refine wpAnyH_take (i := 23) (oi := ⟨some 73, _, _, _, _, _⟩) (v := ?vrb24) rfl (by kernel_rfl) (by kernel_rfl) (by kernel_rfl) (fun _ _ _ h => h) (Or.inl ⟨by kernel_rfl, ?hyrb24⟩) (by assumption) ?restrb24
        case hyrb24 => (intro W hSw; (try dsimp only at hSw); go_simp; try with_reducible rfl)
        case' restrb24 => try simp only [Act.put, List.setIfInBounds_toArray, List.set_cons_zero, List.set_cons_succ]
        refine wpAnyH_ready (rs := [24]) (by kernel_rfl) (by simp) ?_
        refine AllReadyH.cons (o := ⟨some 74, _, _, _, _, _⟩) rfl (fun K hK => ?_) AllReadyH.nil
        go_simp
        go_at_call 75
        refine (cX.out wzrb).mono ?_
        rintro e Wrb1 ⟨rfl, hbWrb1⟩
        have hSWrb1 := hSrb0.trans (hbWrb1.mono hSrb0.size)
        try clear hSrb0
        clear hbWrb1
        go_wp2_with fail
        refine hK.out _ _ hSWrb1 (fun hHeld => ?_)
        clear hK hHeld K
        try simp only [Act.put, List.setIfInBounds_toArray, List.set_cons_zero, List.set_cons_succ]
        refine wpAnyH_take (i := 25) (oi := ⟨some 49, _, _, _, _, _⟩) (v := ?vrb25) rfl (by kernel_rfl) (by kernel_rfl) (by kernel_rfl) (fun _ _ _ h => h) (Or.inl ⟨by kernel_rfl, ?hyrb25⟩) (by assumption) ?restrb25
        case hyrb25 => (intro W hSw; (try dsimp only at hSw); go_simp; try with_reducible rfl)
        case' restrb25 => try simp only [Act.put, List.setIfInBounds_toArray, List.set_cons_zero, List.set_cons_succ]
        refine wpAnyH_take (i := 26) (oi := ⟨some 75, _, _, _, _, _⟩) (v := ?vrb26) rfl (by kernel_rfl) (by kernel_rfl) (by kernel_rfl) (fun _ _ _ h => h) (Or.inl ⟨by kernel_rfl, ?hyrb26⟩) (by assumption) ?restrb26
        case hyrb26 => (intro W hSw; (try dsimp only at hSw); go_simp; try with_reducible rfl)
        case' restrb26 => try simp only [Act.put, List.setIfInBounds_toArray, List.set_cons_zero, List.set_cons_succ]
        refine wpAnyH_take (i := 27) (oi := ⟨some 76, _, _, _, _, _⟩) (v := ?vrb27) rfl (by kernel_rfl) (by kernel_rfl) (by kernel_rfl) (fun _ _ _ h => h) (Or.inl ⟨by kernel_rfl, ?hyrb27⟩) (by assumption) ?restrb27
        case hyrb27 => (intro W hSw; (try dsimp only at hSw); go_simp; try with_reducible rfl)
        case' restrb27 => try simp only [Act.put, List.setIfInBounds_toArray, List.set_cons_zero, List.set_cons_succ]
        refine wpAnyH_take (i := 28) (oi := ⟨some 11, _, _, _, _, _⟩) (v := ?vrb28) rfl (by kernel_rfl) (by kernel_rfl) (by kernel_rfl) (fun _ _ _ h => h) (Or.inl ⟨by kernel_rfl, ?hyrb28⟩) (by assumption) ?restrb28
        case hyrb28 => (intro W hSw; (try dsimp only at hSw); go_simp; try with_reducible rfl)
        case' restrb28 => try simp only [Act.put, List.setIfInBounds_toArray, List.set_cons_zero, List.set_cons_succ]
        refine wpAnyH_take (i := 29) (oi := ⟨some 12, _, _, _, _, _⟩) (v := ?vrb29) rfl (by kernel_rfl) (by kernel_rfl) (by kernel_rfl) (fun _ _ _ h => h) (Or.inl ⟨by kernel_rfl, ?hyrb29⟩) (by assumption) ?restrb29
        case hyrb29 => (intro W hSw; (try dsimp only at hSw); go_simp; try with_reducible rfl)
        case' restrb29 => try simp only [Act.put, List.setIfInBounds_toArray, List.set_cons_zero, List.set_cons_succ]
        refine wpAnyH_done (by kernel_rfl) ?_ _
        skip
        go_upto_region 12 with fail
        have hSrc0 : (fun W' : World => Below w1.heap.size w1 W') Wrb1.drew := hSWrb1.drew
        refine wp_region_held_drew (S := fun W' : World => Below w1.heap.size w1 W') (by kernel_rfl) hSrc0 (fun hHeld => ?_)
        clear hHeld hSWrb1
        generalize Wrb1.drew = wzrc at *
        refine wpAnyH_take (i := 0) (oi := ⟨some 78, _, _, _, _, _⟩) (v := ?vrc1) rfl (by kernel_rfl) (by kernel_rfl) (by kernel_rfl) (fun _ _ _ h => h) (Or.inl ⟨by kernel_rfl, ?hyrc1⟩) (by assumption) ?restrc1
        case hyrc1 => (intro W hSw; (try dsimp only at hSw); go_simp; try with_reducible rfl)
        case' restrc1 => try simp only [Act.put, List.setIfInBounds_toArray, List.set_cons_zero, List.set_cons_succ]
        refine wpAnyH_take (i := 1) (oi := ⟨some 79, _, _, _, _, _⟩) (v := ?vrc2) rfl (by kernel_rfl) (by kernel_rfl) (by kernel_rfl) (fun _ _ _ h => h) (Or.inl ⟨by kernel_rfl, ?hyrc2⟩) (by assumption) ?restrc2
        case hyrc2 => (intro W hSw; obtain ⟨j1, j2, j3, j4, j5⟩ := (HX2.out W hSw).cel; dsimp only at j1 j2; (try dsimp only at hSw); go_simp; try with_reducible rfl)
        case' restrc2 => try simp only [Act.put, List.setIfInBounds_toArray, List.set_cons_zero, List.set_cons_succ]
        refine wpAnyH_take (i := 2) (oi := ⟨some 80, _, _, _, _, _⟩) (v := ?vrc3) rfl (by kernel_rfl) (by kernel_rfl) (by kernel_rfl) (fun _ _ _ h => h) (Or.inl ⟨by kernel_rfl, ?hyrc3⟩) (by assumption) ?restrc3
        case hyrc3 => (intro W hSw; (try dsimp only at hSw); go_simp; try with_reducible rfl)
        case' restrc3 => try simp only [Act.put, List.setIfInBounds_toArray, List.set_cons_zero, List.set_cons_succ]
        refine wpAnyH_take (i := 3) (oi := ⟨some 81, _, _, _, _, _⟩) (v := ?vrc4) rfl (by kernel_rfl) (by kernel_rfl) (by kernel_rfl) (fun _ _ _ h => h) (Or.inl ⟨by kernel_rfl, ?hyrc4⟩) (by assumption) ?restrc4
        case hyrc4 => (intro W hSw; obtain ⟨j1, j2, j3, j4, j5⟩ := (HX1.out W hSw).cel; dsimp only at j1 j2; (try dsimp only at hSw); go_simp; try with_reducible rfl)
        case' restrc4 => try simp only [Act.put, List.setIfInBounds_toArray, List.set_cons_zero, List.set_cons_succ]
        refine wpAnyH_take (i := 4) (oi := ⟨some 82, _, _, _, _, _⟩) (v := ?vrc5) rfl (by kernel_rfl) (by kernel_rfl) (by kernel_rfl) (fun _ _ _ h => h) (Or.inl ⟨by kernel_rfl, ?hyrc5⟩) (by assumption) ?restrc5
        case hyrc5 => (intro W hSw; (try dsimp only at hSw); go_simp; try with_reducible rfl)
        case' restrc5 => try simp only [Act.put, List.setIfInBounds_toArray, List.set_cons_zero, List.set_cons_succ]
        refine wpAnyH_take (i := 5) (oi := ⟨some 83, _, _, _, _, _⟩) (v := ?vrc6) rfl (by kernel_rfl) (by kernel_rfl) (by kernel_rfl) (fun _ _ _ h => h) (Or.inl ⟨by kernel_rfl, ?hyrc6⟩) (by assumption) ?restrc6
        case hyrc6 => (intro W hSw; (try dsimp only at hSw); go_simp; try with_reducible rfl)
        case' restrc6 => try simp only [Act.put, List.setIfInBounds_toArray, List.set_cons_zero, List.set_cons_succ]
        refine wpAnyH_take (i := 6) (oi := ⟨some 84, _, _, _, _, _⟩) (v := ?vrc7) rfl (by kernel_rfl) (by kernel_rfl) (by kernel_rfl) (fun _ _ _ h => h) (Or.inl ⟨by kernel_rfl, ?hyrc7⟩) (by assumption) ?restrc7
        case hyrc7 => (intro W hSw; (try dsimp only at hSw); go_simp; try with_reducible rfl)
        case' restrc7 => try simp only [Act.put, List.setIfInBounds_toArray, List.set_cons_zero, List.set_cons_succ]
        refine wpAnyH_take (i := 7) (oi := ⟨some 85, _, _, _, _, _⟩) (v := ?vrc8) rfl (by kernel_rfl) (by kernel_rfl) (by kernel_rfl) (fun _ _ _ h => h) (Or.inl ⟨by kernel_rfl, ?hyrc8⟩) (by assumption) ?restrc8
        case hyrc8 => (intro W hSw; obtain ⟨d0, d1, d2, d3, d4, d5⟩ := (HRow0.out W hSw).cells; dsimp only at d0 d1 d2 d3 d4 d5; (try dsimp only at hSw); go_simp; try with_reducible rfl)
        case' restrc8 => try simp only [Act.put, List.setIfInBounds_toArray, List.set_cons_zero, List.set_cons_succ]
        refine wpAnyH_take (i := 8) (oi := ⟨some 86, _, _, _, _, _⟩) (v := ?vrc9) rfl (by kernel_rfl) (by kernel_rfl) (by kernel_rfl) (fun _ _ _ h => h) (Or.inl ⟨by kernel_rfl, ?hyrc9⟩) (by assumption) ?restrc9
        case hyrc9 => (intro W hSw; (try dsimp only at hSw); go_simp; try with_reducible rfl)
        case' restrc9 => try simp only [Act.put, List.setIfInBounds_toArray, List.set_cons_zero, List.set_cons_succ]
        refine wpAnyH_take (i := 9) (oi := ⟨some 87, _, _, _, _, _⟩) (v := ?vrc10) rfl (by kernel_rfl) (by kernel_rfl) (by kernel_rfl) (fun _ _ _ h => h) (Or.inl ⟨by kernel_rfl, ?hyrc10⟩) (by assumption) ?restrc10
        case hyrc10 => (intro W hSw; (try dsimp only at hSw); go_simp; try with_reducible rfl)
        case' restrc10 => try simp only [Act.put, List.setIfInBounds_toArray, List.set_cons_zero, List.set_cons_succ]
        refine wpAnyH_take (i := 10) (oi := ⟨some 88, _, _, _, _, _⟩) (v := ?vrc11) rfl (by kernel_rfl) (by kernel_rfl) (by kernel_rfl) (fun _ _ _ h => h) (Or.inl ⟨by kernel_rfl, ?hyrc11⟩) (by assumption) ?restrc11
        case hyrc11 => (intro W hSw; have g1 := HCL0.out W hSw; (try dsimp only at hSw); go_simp; try with_reducible rfl)
        case' restrc11 => try simp only [Act.put, List.setIfInBounds_toArray, List.set_cons_zero, List.set_cons_succ]
        refine wpAnyH_take (i := 11) (oi := ⟨some 89, _, _, _, _, _⟩) (v := ?vrc12) rfl (by kernel_rfl) (by kernel_rfl) (by kernel_rfl) (fun _ _ _ h => h) (Or.inl ⟨by kernel_rfl, ?hyrc12⟩) (by assumption) ?restrc12
        case hyrc12 => (intro W hSw; (try dsimp only at hSw); go_simp; try with_reducible rfl)
        case' restrc12 => try simp only [Act.put, List.setIfInBounds_toArray, List.set_cons_zero, List.set_cons_succ]
        refine wpAnyH_take (i := 12) (oi := ⟨some 90, _, _, _, _, _⟩) (v := ?vrc13) rfl (by kernel_rfl) (by kernel_rfl) (by kernel_rfl) (fun _ _ _ h => h) (Or.inl ⟨by kernel_rfl, ?hyrc13⟩) (by assumption) ?restrc13
        case hyrc13 => (intro W hSw; (try dsimp only at hSw); go_simp; try with_reducible rfl)
        case' restrc13 => try simp only [Act.put, List.setIfInBounds_toArray, List.set_cons_zero, List.set_cons_succ]
        refine wpAnyH_take (i := 13) (oi := ⟨some 91, _, _, _, _, _⟩) (v := ?vrc14) rfl (by kernel_rfl) (by kernel_rfl) (by kernel_rfl) (fun _ _ _ h => h) (Or.inl ⟨by kernel_rfl, ?hyrc14⟩) (by assumption) ?restrc14
        case hyrc14 => (intro W hSw; (try dsimp only at hSw); go_simp; try with_reducible rfl)
        case' restrc14 => try simp only [Act.put, List.setIfInBounds_toArray, List.set_cons_zero, List.set_cons_succ]
        refine wpAnyH_take (i := 14) (oi := ⟨some 92, _, _, _, _, _⟩) (v := ?vrc15) rfl (by kernel_rfl) (by kernel_rfl) (by kernel_rfl) (fun _ _ _ h => h) (Or.inl ⟨by kernel_rfl, ?hyrc15⟩) (by assumption) ?restrc15
        case hyrc15 => (intro W hSw; obtain ⟨d0, d1, d2, d3, d4, d5⟩ := (HRow0.out W hSw).cells; dsimp only at d0 d1 d2 d3 d4 d5; (try dsimp only at hSw); go_simp; try with_reducible rfl)
        case' restrc15 => try simp only [Act.put, List.setIfInBounds_toArray, List.set_cons_zero, List.set_cons_succ]
        refine wpAnyH_take (i := 15) (oi := ⟨some 93, _, _, _, _, _⟩) (v := ?vrc16) rfl (by kernel_rfl) (by kernel_rfl) (by kernel_rfl) (fun _ _ _ h => h) (Or.inl ⟨by kernel_rfl, ?hyrc16⟩) (by assumption) ?restrc16
        case hyrc16 => (intro W hSw; (try dsimp only at hSw); go_simp; try with_reducible rfl)
        case' restrc16 => try simp only [Act.put, List.setIfInBounds_toArray, List.set_cons_zero, List.set_cons_succ]
        refine wpAnyH_take (i := 16) (oi := ⟨some 94, _, _, _, _, _⟩) (v := ?vrc17) rfl (by kernel_rfl) (by kernel_rfl) (by kernel_rfl) (fun _ _ _ h => h) (Or.inl ⟨by kernel_rfl, ?hyrc17⟩) (by assumption) ?restrc17
        case hyrc17 => (intro W hSw; (try dsimp only at hSw); go_simp; try with_reducible rfl)
        case' restrc17 => try simp only [Act.put, List.setIfInBounds_toArray, List.set_cons_zero, List.set_cons_succ]
        refine wpAnyH_take (i := 17) (oi := ⟨some 95, _, _, _, _, _⟩) (v := ?vrc18) rfl (by kernel_rfl) (by kernel_rfl) (by kernel_rfl) (fun _ _ _ h => h) (Or.inl ⟨by kernel_rfl, ?hyrc18⟩) (by assumption) ?restrc18
        case hyrc18 => (intro W hSw; have g1 := HCH0.out W hSw; (try dsimp only at hSw); go_simp; try with_reducible rfl)
        case' restrc18 => try simp only [Act.put, List.setIfInBounds_toArray, List.set_cons_zero, List.set_cons_succ]
        refine wpAnyH_take (i := 18) (oi := ⟨some 96, _, _, _, _, _⟩) (v := ?vrc19) rfl (by kernel_rfl) (by kernel_rfl) (by kernel_rfl) (fun _ _ _ h => h) (Or.inl ⟨by kernel_rfl, ?hyrc19⟩) (by assumption) ?restrc19
        case hyrc19 => (intro W hSw; (try dsimp only at hSw); go_simp; try with_reducible rfl)
        case' restrc19 => try simp only [Act.put, List.setIfInBounds_toArray, List.set_cons_zero, List.set_cons_succ]
        refine wpAnyH_take (i := 19) (oi := ⟨some 97, _, _, _, _, _⟩) (v := ?vrc20) rfl (by kernel_rfl) (by kernel_rfl) (by kernel_rfl) (fun _ _ _ h => h) (Or.inl ⟨by kernel_rfl, ?hyrc20⟩) (by assumption) ?restrc20
        case hyrc20 => (intro W hSw; obtain ⟨d0, d1, d2, d3, d4, d5⟩ := (HRow0.out W hSw).cells; dsimp only at d0 d1 d2 d3 d4 d5; (try dsimp only at hSw); go_simp; try with_reducible rfl)
        case' restrc20 => try simp only [Act.put, List.setIfInBounds_toArray, List.set_cons_zero, List.set_cons_succ]
        refine wpAnyH_take (i := 20) (oi := ⟨some 98, _, _, _, _, _⟩) (v := ?vrc21) rfl (by kernel_rfl) (by kernel_rfl) (by kernel_rfl) (fun _ _ _ h => h) (Or.inl ⟨by kernel_rfl, ?hyrc21⟩) (by assumption) ?restrc21
        case hyrc21 => (intro W hSw; (try dsimp only at hSw); go_simp; try with_reducible rfl)
        case' restrc21 => try simp only [Act.put, List.setIfInBounds_toArray, List.set_cons_zero, List.set_cons_succ]
        refine wpAnyH_take (i := 21) (oi := ⟨some 99, _, _, _, _, _⟩) (v := ?vrc22) rfl (by kernel_rfl) (by kernel_rfl) (by kernel_rfl) (fun _ _ _ h => h) (Or.inl ⟨by kernel_rfl, ?hyrc22⟩) (by assumption) ?restrc22
        case hyrc22 => (intro W hSw; (try dsimp only at hSw); go_simp; try with_reducible rfl)
        case' restrc22 => try simp only [Act.put, List.setIfInBounds_toArray, List.set_cons_zero, List.set_cons_succ]
        refine wpAnyH_take (i := 22) (oi := ⟨some 100, _, _, _, _, _⟩) (v := ?vrc23) rfl (by kernel_rfl) (by kernel_rfl) (by kernel_rfl) (fun _ _ _ h => h) (Or.inl ⟨by kernel_rfl, ?hyrc23⟩) (by assumption) ?restrc23
        case hyrc23 => (intro W hSw; have g1 := HCL0.out W hSw; (try dsimp only at hSw); go_simp; try with_reducible rfl)
        case' restrc23 => try simp only [Act.put, List.setIfInBounds_toArray, List.set_cons_zero, List.set_cons_succ]
        refine wpAnyH_take (i := 23) (oi := ⟨some 101, _, _, _, _, _⟩) (v := ?vrc24) rfl (by kernel_rfl) (by kernel_rfl) (by kernel_rfl) (fun _ _ _ h => h) (Or.inl ⟨by kernel_rfl, ?hyrc24⟩) (by assumption) ?restrc24
        case hyrc24 => (intro W hSw; (try dsimp only at hSw); go_simp; try with_reducible rfl)
        case' restrc24 => try simp only [Act.put, List.setIfInBounds_toArray, List.set_cons_zero, List.set_cons_succ]
        refine wpAnyH_ready (rs := [24]) (by kernel_rfl) (by simp) ?_
        refine AllReadyH.cons (o := ⟨some 102, _, _, _, _, _⟩) rfl (fun K hK => ?_) AllReadyH.nil
        go_simp
        go_at_call 75
        refine (cY.out wzrc).mono ?_
        rintro e Wrc1 ⟨rfl, hbWrc1⟩
        have hSWrc1 := hSrc0.trans (hbWrc1.mono hSrc0.size)
        try clear hSrc0
        clear hbWrc1
        go_wp2_with fail
        refine hK.out _ _ hSWrc1 (fun hHeld => ?_)
        clear hK hHeld K
        try simp only [Act.put, List.setIfInBounds_toArray, List.set_cons_zero, List.set_cons_succ]
        refine wpAnyH_take (i := 25) (oi := ⟨some 77, _, _, _, _, _⟩) (v := ?vrc25) rfl (by kernel_rfl) (by kernel_rfl) (by kernel_rfl) (fun _ _ _ h => h) (Or.inl ⟨by kernel_rfl, ?hyrc25⟩) (by assumption) ?restrc25
        case hyrc25 => (intro W hSw; (try dsimp only at hSw); go_simp; try with_reducible rfl)
        case' restrc25 => try simp only [Act.put, List.setIfInBounds_toArray, List.set_cons_zero, List.set_cons_succ]
        refine wpAnyH_take (i := 26) (oi := ⟨some 103, _, _, _, _, _⟩) (v := ?vrc26) rfl (by kernel_rfl) (by kernel_rfl) (by kernel_rfl) (fun _ _ _ h => h) (Or.inl ⟨by kernel_rfl, ?hyrc26⟩) (by assumption) ?restrc26
        case hyrc26 => (intro W hSw; (try dsimp only at hSw); go_simp; try with_reducible rfl)
        case' restrc26 => try simp only [Act.put, List.setIfInBounds_toArray, List.set_cons_zero, List.set_cons_succ]
        refine wpAnyH_take (i := 27) (oi := ⟨some 104, _, _, _, _, _⟩) (v := ?vrc27) rfl (by kernel_rfl) (by kernel_rfl) (by kernel_rfl) (fun _ _ _ h => h) (Or.inl ⟨by kernel_rfl, ?hyrc27⟩) (by assumption) ?restrc27
        case hyrc27 => (intro W hSw; (try dsimp only at hSw); go_simp; try with_reducible rfl)
        case' restrc27 => try simp only [Act.put, List.setIfInBounds_toArray, List.set_cons_zero, List.set_cons_succ]
        refine wpAnyH_take (i := 28) (oi := ⟨some 13, _, _, _, _, _⟩) (v := ?vrc28) rfl (by kernel_rfl) (by kernel_rfl) (by kernel_rfl) (fun _ _ _ h => h) (Or.inl ⟨by kernel_rfl, ?hyrc28⟩) (by assumption) ?restrc28
        case hyrc28 => (intro W hSw; (try dsimp only at hSw); go_simp; try with_reducible rfl)
        case' restrc28 => try simp only [Act.put, List.setIfInBounds_toArray, List.set_cons_zero, List.set_cons_succ]
        refine wpAnyH_take (i := 29) (oi := ⟨some 14, _, _, _, _, _⟩) (v := ?vrc29) rfl (by kernel_rfl) (by kernel_rfl) (by kernel_rfl) (fun _ _ _ h => h) (Or.inl ⟨by kernel_rfl, ?hyrc29⟩) (by assumption) ?restrc29
        case hyrc29 => (intro W hSw; (try dsimp only at hSw); go_simp; try with_reducible rfl)
        case' restrc29 => try simp only [Act.put, List.setIfInBounds_toArray, List.set_cons_zero, List.set_cons_succ]
        refine wpAnyH_done (by kernel_rfl) ?_ _
        skip
        have k5 := hSWrc1
        have kz := HB.out.trans ((HBk.out.trans (k5.mono HBk.out.size)).mono HB.out.size)
        have hbr := HRow.out _ k5
        have bx1 := HX1.out _ k5
        have bx2 := HX2.out _ k5
        obtain ⟨j1, j2, j3, j4, j5⟩ := bx1.cel
        dsimp only at j1 j2
        have hfin := hbr.set (p1x + rx, p1y + ry)
        have HFB := Lib.hid (below_setP kz (m := w.heap.size + 1) (q := (p1x + rx, p1y + ry)) (by omega))
        obtain ⟨j6, j7, j8, j9, j10⟩ := hbr.cel
        dsimp only at j6 j7
        clear bx1 bx2 hbr kz k5
        go_wp2_with fail
        have q1 := hfin.c0
        have q2 := hfin.c1
        refine bodyPost_ret (v := .agg #[.int .i64 (p1x + rx), .int .i64 (p1y + ry)]) (by simp only [setP] at q1 q2; simp [results, Try.results53, go_sem, q1, q2]) rfl ?_
        exact ⟨by rw [hP.out], HFB.out⟩
end Go.Proofs
