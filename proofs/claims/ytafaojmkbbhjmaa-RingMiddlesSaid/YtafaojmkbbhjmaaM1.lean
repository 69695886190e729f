/- longest. -/
import Derived.Test.YtafaojmkbbhjmaaC6
import Derived.Test.YtafaojmkbbhjmaaN3
set_option linter.unusedVariables false
set_option linter.unusedSimpArgs false
namespace Go.Proofs
open Go.RowKit Go.Proofs.Mp

/-- block n holds a range -/
def BoxR (W : World) (n : Nat) (p : Int × Int) : Prop := W.heap[n]? = some (.cells #[.int .i64 p.1, .int .i64 p.2] 52 (0, 0))
section
variable {W W' : World} {n m : Nat} {p q : Int × Int}
theorem BoxR.lt (h : BoxR W n p) : n < W.heap.size := (Array.getElem?_eq_some_iff.1 h).1
theorem BoxR.c0 (h : BoxR W n p) : W.cell? ⟨n, 0, none⟩ = some (.int .i64 p.1) := by rw [cell_of_row _ _ _ _ _ _ h]; rfl
theorem BoxR.c1 (h : BoxR W n p) : W.cell? ⟨n, 1, none⟩ = some (.int .i64 p.2) := by rw [cell_of_row _ _ _ _ _ _ h]; rfl
theorem BoxR.cel (h : BoxR W n p) : Cel W n p := ⟨h.c0, h.c1, frozen_of_row W n 0 _ 52 h, frozen_of_row W n 1 _ 52 h, h.lt⟩
theorem BoxR.below (h : BoxR W n p) (hb : Below W.heap.size W W') : BoxR W' n p := (hb.block n h.lt).trans h
theorem BoxR.alloc (h : BoxR W n p) (o : Obj) : BoxR (W.alloc o) n p := h.below (bw1 _ _)
theorem BoxR.set (h : BoxR W n p) (q : Int × Int) : BoxR (setP W n q) n q := by
  have h1 := heap_setCell_same W n 0 _ 52 (.int .i64 q.1) h
  have h2 := heap_setCell_same (W.setCell ⟨n, 0, none⟩ (.int .i64 q.1)) n 1 _ 52 (.int .i64 q.2) h1
  unfold BoxR setP
  rw [h2]
  rfl
end

/-- the longest of the first k runs, of several the first one -/
def longTo (zs : List (Int × Int)) : Nat → Int × Int
  | 0 => (0, 0)
  | k + 1 => if (longTo zs k).2 - (longTo zs k).1 < zs[k]!.2 - zs[k]!.1 then zs[k]! else longTo zs k
def longX (zs : List (Int × Int)) : Int := flo ((longTo zs zs.length).1 + (longTo zs zs.length).2 - 1) 2
def longB (zs : List (Int × Int)) : Bool := decide ((longTo zs zs.length).1 < (longTo zs zs.length).2)
def inR50 (r : Int × Int) : Prop := -1125899906842624 ≤ r.1 ∧ r.1 ≤ 1125899906842624 ∧ -1125899906842624 ≤ r.2 ∧ r.2 ≤ 1125899906842624
theorem longTo_in {zs : List (Int × Int)} (h : ∀ j, j < zs.length → inR50 zs[j]!) : ∀ k, k ≤ zs.length → inR50 (longTo zs k) := by
  intro k
  induction k with
  | zero => intro _; unfold longTo inR50; omega
  | succ k ih =>
    intro hk
    unfold longTo
    split
    · exact h k (by omega)
    · exact ih (by omega)

set_option maxRecDepth 100000 in
set_option maxHeartbeats 2000000 in
theorem ring_longest (A : Option Addr) (c : Nat) (zs : List (Int × Int)) (w : World) (hmax : zs.length ≤ 1000000000000) (hin : ∀ j, j < zs.length → inR50 zs[j]!) (hR : RdR w A zs) :
    Calls Try.prog 48 #[.slice A zs.length c] w (RetV w (.tuple #[.int .i64 (longX zs), .bool (longB zs)])) := by
  have HI := Lib.hid hin
  have HL := Lib.hid (longTo_in hin)
  have HR := Lib.hid hR
  clear hin hR
  have hb0 : BoxR (w.alloc (.cells #[.int .i64 0, .int .i64 0] 52)) w.heap.size (0, 0) := heap_alloc_new w _
  have hbw0 := bw1 w (.cells #[.int .i64 0, .int .i64 0] 52)
  have cF := Lib.hid fun a W h1 h2 => num_floor a 2 W h1 h2 (by decide)
  go_enter Try.func48, Try.ntmps48
  go_wp2_with fail
  go_loopw [9] (fun i wr => ∃ k : Nat, k ≤ zs.length ∧ i = .int .i64 k ∧ Below w.heap.size w wr ∧ BoxR wr w.heap.size (longTo zs k)) (fun i _ => zs.length - (intOf i).toNat)
  case atStart => exact ⟨0, by omega, rfl, hbw0, hb0⟩
  case round =>
    obtain ⟨k, hk, rfl, hbw, hbx⟩ := hrel
    clear hb0 hbw0
    have hbs := hbw.size
    by_cases hlt : k < zs.length
    · obtain ⟨b, off, rfl, hb, h1, h2⟩ := RdR.get HR.out hbw hlt
      have hbr : b < wr.heap.size := Nat.lt_of_lt_of_le hb hbs
      have hz := HI.out k hlt
      have hl := HL.out k (by omega)
      have HS := Lib.hid (show longTo zs (k + 1) = if (longTo zs k).2 - (longTo zs k).1 < zs[k]!.2 - zs[k]!.1 then zs[k]! else longTo zs k from rfl)
      obtain ⟨⟨x, y⟩, hx⟩ : ∃ p, zs[k]! = p := ⟨_, rfl⟩
      obtain ⟨⟨u, v⟩, hu⟩ : ∃ p, longTo zs k = p := ⟨_, rfl⟩
      rw [hx] at h1 h2 hz HS
      rw [hu] at hbx hl HS
      clear hx hu
      obtain ⟨k1, k2, f1, f2, l1⟩ := hbx.cel
      unfold inR50 at hz hl
      dsimp only at h1 h2 hz hl HS k1 k2
      obtain ⟨z1, z2, z3, z4⟩ := hz
      obtain ⟨y1, y2, y3, y4⟩ := hl
      have hq1 := (hbx.set (x, y)).alloc (.cells #[.int .i64 x, .int .i64 y] 52)
      have hq2 := (below_setP hbw (m := w.heap.size) (q := (x, y)) (Nat.le_refl _)).alloc (by rw [setP_size]; exact hbs) (.cells #[.int .i64 x, .int .i64 y] 52)
      have hq3 := hbx.alloc (.cells #[.int .i64 x, .int .i64 y] 52)
      have hq4 := hbw.alloc hbs (.cells #[.int .i64 x, .int .i64 y] 52)
      have HQ1 := Lib.hid hq1
      have HQ2 := Lib.hid hq2
      have HQ3 := Lib.hid hq3
      have HQ4 := Lib.hid hq4
      clear hq1 hq2 hq3 hq4 hbx
      by_cases hc : v - u < y - x
      · have HS2 := Lib.hid (HS.out.trans (if_pos hc))
        clear HS
        go_wp2
        go_roundw
        case rel => exact ⟨k + 1, by omega, by go_num, HQ2.out, by rw [HS2.out]; exact HQ1.out⟩
        case measure => simp [intOf]; omega
      · have HS2 := Lib.hid (HS.out.trans (if_neg hc))
        clear HS
        go_wp2
        go_roundw
        case rel => exact ⟨k + 1, by omega, by go_num, HQ4.out, by rw [HS2.out]; exact HQ3.out⟩
        case measure => simp [intOf]; omega
    · obtain rfl : k = zs.length := by omega
      have hl := HL.out zs.length (by omega)
      have HX := Lib.hid (show longX zs = flo ((longTo zs zs.length).1 + (longTo zs zs.length).2 - 1) 2 from rfl)
      have HB := Lib.hid (show longB zs = decide ((longTo zs zs.length).1 < (longTo zs zs.length).2) from rfl)
      obtain ⟨⟨u, v⟩, hu⟩ : ∃ p, longTo zs zs.length = p := ⟨_, rfl⟩
      rw [hu] at hbx hl HX HB
      clear hu
      obtain ⟨k1, k2, f1, f2, l1⟩ := hbx.cel
      unfold inR50 at hl
      dsimp only at k1 k2 hl HX HB
      obtain ⟨y1, y2, y3, y4⟩ := hl
      go_wp2_with fail
      refine (cF.out _ _ (by omega) (by omega)).mono ?_
      rintro e w2 ⟨rfl, hb2⟩
      have hbx2 := hbx.below hb2
      have hbw2 := hbw.trans (hb2.mono hbs)
      clear k1 k2 f1 f2 l1 hbx hbw hb2
      obtain ⟨k1, k2, f1, f2, l1⟩ := hbx2.cel
      dsimp only at k1 k2
      go_upto_region 9 with fail
      obtain ⟨z, hz⟩ : ∃ z, decide (u < v) = z := ⟨_, rfl⟩
      rw [hz] at HB
      go_quiet (fail)
      go_wp2
      refine bodyPost_ret (v := .tuple #[.int .i64 (flo (u + v - 1) 2), .bool z]) (by simp [results, Try.results48, go_sem, hz]) rfl ?_
      exact ⟨by rw [HX.out, HB.out], below_drewN hbw2 _⟩
end Go.Proofs
