/- lower, walked. -/
import Derived.Test.YtcfhhkdjdpkjpaaXL6
set_option linter.unusedVariables false
set_option linter.unusedSimpArgs false
namespace Go.Proofs
open Go.RowKit Go.Proofs.Mp Go.Lib

/-- a grid point on the boundary -/
def bdP (W H i : Nat) : Prop := i % W = 0 ∨ i / W = 0 ∨ i % W + 1 = W ∨ i / W + 1 = H
instance (W H i : Nat) : Decidable (bdP W H i) := by unfold bdP; infer_instance
def lowV (t : Ht) (W H : Nat) (level : Int) : Prop := ∀ j, j < W * H → bdP W H j → t.v[j]! < level
def RetB (w : World) (P : Prop) (e : Ending) (w' : World) : Prop := ∃ z : Bool, e = .returned (.bool z) ∧ (z = true ↔ P) ∧ Below w.heap.size w w'
theorem lowV_low {t : Ht} {W H : Nat} {level : Int} (h : lowV t W H level) : lowB t W H level := by
  intro r c hr hc hb
  have e := cell_rc (r := r) hc
  unfold abv
  rw [decide_eq_false]
  have := h (r * W + c) (at_lt hr hc) (by unfold bdP; rw [e.1, e.2]; omega)
  omega

set_option maxRecDepth 100000 in
set_option maxHeartbeats 8000000 in
theorem law_lower (t : Ht) (W H : Nat) (level : Int) (w : World) (g : Grd t W H) (hR : RdI w t.a t.v) : Calls Try.prog 24 #[aggH t, .int .i64 level] w (RetB w (lowV t W H level)) := by
  have hb0 : Below w.heap.size w (w.alloc (.cells (celH t) 26)) := bw1 _ _
  have hrow0 := RowH.new w t
  obtain ⟨a1, a2, a3, a4, a5, a6, _⟩ := g.all
  have HRow := Lib.hid fun (W' : World) (hb : Below (w.alloc (.cells (celH t) 26)).heap.size (w.alloc (.cells (celH t) 26)) W') => hrow0.below hb
  have HWz := Lib.hid fun (W' : World) (hb : Below (w.alloc (.cells (celH t) 26)).heap.size (w.alloc (.cells (celH t) 26)) W') => (hb0.trans (hb.mono hb0.size) : Below w.heap.size w W')
  have HV := Lib.hid fun i (hi : i < t.v.length) => RdI.at_ hR (i := i) hi
  have HL := Lib.hid (show lowV t W H level ↔ ∀ j, j < W * H → bdP W H j → t.v[j]! < level from Iff.rfl)
  have hgw := g.w
  have hgh := g.h
  clear hR g
  generalize lowV t W H level = LV at *
  obtain ⟨x, y, tw, th, st, A, cc, v⟩ := t
  unfold aggH celH at *
  dsimp only at *
  subst hgw hgh
  have HN := Lib.hid a5
  have hvl : v.length ≤ 4096 := by omega
  clear a5
  obtain ⟨W1, hW1⟩ : ∃ W1 : Nat, (W : Int) - 1 = (W1 : Int) := ⟨W - 1, by omega⟩
  obtain ⟨H1, hH1⟩ : ∃ H1 : Nat, (H : Int) - 1 = (H1 : Int) := ⟨H - 1, by omega⟩
  have hw1 : IntKind.i64.wrap (W1 : Int) = (W1 : Int) := IntWalk.i64_in _ (by omega)
  have hh1 : IntKind.i64.wrap (H1 : Int) = (H1 : Int) := IntWalk.i64_in _ (by omega)
  have hWz : ¬ W = 0 := by omega
  go_enter Try.func24, Try.ntmps24
  go_upto_region 1 with fail
  generalize (w.alloc (.cells #[.int .i64 x, .int .i64 y, .int .i64 (W : Int), .int .i64 (H : Int), .int .i64 st, .slice A v.length cc] 26)) = w0 at *
  clear hrow0 hb0
  go_upto_block 0 with fail
  go_wp2_with fail
  go_loopw [5] (fun i wr => ∃ k : Nat, k ≤ v.length ∧ i = .int .i64 k ∧ Hid (∀ j, j < k → bdP W H j → v[j]! < level) ∧ Below w0.heap.size w0 wr) (fun i _ => v.length - (intOf i).toNat)
  case atStart => exact ⟨0, by omega, rfl, Lib.hid (fun j hj => by omega), Below.refl _ _⟩
  case round =>
    obtain ⟨k, hk, rfl, hall, kb⟩ := hrel
    generalize wr = wa at *
    have HKa := Lib.hid kb
    obtain ⟨r0, r1, r2, r3, r4, r5⟩ := (HRow.out wa kb).cells
    dsimp only at r0 r1 r2 r3 r4 r5
    clear kb
    by_cases hlt : k < v.length
    rotate_left
    · have hge : ¬ ((k : Int) < (v.length : Int)) := by omega
      go_wp2
      go_ret
      exact ⟨true, rfl, by rw [HL.out]; exact ⟨fun _ j hj => hall.out j (by have := HN.out; omega), fun _ => rfl⟩, HWz.out _ HKa.out⟩
    · have hli : (k : Int) < (v.length : Int) := by omega
      have hki : (0 : Int) ≤ (k : Int) := by omega
      have hr : ((k : Int)).tmod (W : Int) = ((k % W : Nat) : Int) := rfl
      have hq : ((k : Int)).tdiv (W : Int) = ((k / W : Nat) : Int) := rfl
      have hcb : k % W < W := Nat.mod_lt _ (by omega)
      have hrb : k / W ≤ 4096 := Nat.le_trans (Nat.div_le_self _ _) (by omega)
      have hqw : IntKind.i64.wrap ((k / W : Nat) : Int) = ((k / W : Nat) : Int) := IntWalk.i64_in _ (by generalize k / W = r at hrb; omega)
      obtain ⟨b, off, hA, hcv⟩ := HV.out k hlt
      have c1 := hcv wa (HWz.out wa HKa.out)
      subst hA
      have HBD := Lib.hid (show bdP W H k ↔ (k % W = 0 ∨ k / W = 0 ∨ k % W + 1 = W ∨ k / W + 1 = H) from Iff.rfl)
      clear hcv
      obtain ⟨z, hz⟩ : ∃ z, v[k]! = z := ⟨_, rfl⟩
      rw [hz] at c1
      generalize k % W = c at *
      generalize k / W = r at *
      generalize hbd : bdP W H k = BD at *
      go_wp2_with fail
      go_quiet (fail)
      have hkb := below_drewN HKa.out nq
      obtain ⟨r0', r1', r2', r3', r4', r5'⟩ := (HRow.out _ hkb).cells
      dsimp only at r0' r1' r2' r3' r4' r5'
      have c1' : (wa.drewN nq).cell? ⟨b, off + k, none⟩ = some (.int .i64 z) := c1
      clear r0 r1 r2 r3 r4 r5 c1 hr hq hqw
      generalize wa.drewN nq = wb at *
      have HKb := Lib.hid hkb
      clear hkb
      go_upto_region 5 with fail
      go_cut [51] (fun vv wx => (∃ q : Bool, vv = .bool q ∧ (q = true ↔ BD ∧ level ≤ z)) ∧ wx = wb)
      case first =>
        by_cases e0 : c = 0
        · have hyb : BD := by rw [HBD.out]; omega
          subst e0
          go_wp2_with fail
          go_meet
          exact ⟨⟨decide (level ≤ z), rfl, by rw [decide_eq_true_eq]; exact ⟨fun h => ⟨hyb, h⟩, fun h => h.2⟩⟩, rfl⟩
        · have f0 : ¬ (c : Int) = 0 := by omega
          have h0 : ((c : Int) == 0) = false := by simpa using f0
          by_cases e1 : r = 0
          · have hyb : BD := by rw [HBD.out]; omega
            subst e1
            go_wp2_with fail
            go_meet
            exact ⟨⟨decide (level ≤ z), rfl, by rw [decide_eq_true_eq]; exact ⟨fun h => ⟨hyb, h⟩, fun h => h.2⟩⟩, rfl⟩
          · have f1 : ¬ (r : Int) = 0 := by omega
            have h1 : ((r : Int) == 0) = false := by simpa using f1
            by_cases e2 : c = W1
            · have hyb : BD := by rw [HBD.out]; omega
              subst e2
              go_wp2_with fail
              go_meet
              exact ⟨⟨decide (level ≤ z), rfl, by rw [decide_eq_true_eq]; exact ⟨fun h => ⟨hyb, h⟩, fun h => h.2⟩⟩, rfl⟩
            · have f2 : ¬ (c : Int) = (W1 : Int) := by omega
              have h2 : ((c : Int) == (W1 : Int)) = false := by simpa using f2
              by_cases e3 : r = H1
              · have hyb : BD := by rw [HBD.out]; omega
                subst e3
                go_wp2_with fail
                go_meet
                exact ⟨⟨decide (level ≤ z), rfl, by rw [decide_eq_true_eq]; exact ⟨fun h => ⟨hyb, h⟩, fun h => h.2⟩⟩, rfl⟩
              · have f3 : ¬ (r : Int) = (H1 : Int) := by omega
                have h3 : ((r : Int) == (H1 : Int)) = false := by simpa using f3
                have hnb : ¬ BD := by rw [HBD.out]; omega
                go_wp2_with fail
                go_meet
                exact ⟨⟨false, rfl, ⟨fun h => (by cases h), fun h => absurd h.1 hnb⟩⟩, rfl⟩
      obtain ⟨⟨q, rfl, hq⟩, rfl⟩ := hcut
      have HQ := Lib.hid hq
      clear r0' r1' r2' r3' r4' r5' c1' hq
      cases q
      · go_wp2_with fail
        go_roundw
        case rel => exact ⟨k + 1, by omega, by go_num, Lib.hid (fun j hj hb => by
          by_cases e : j = k
          · rw [e] at hb ⊢
            rw [hbd] at hb
            have := HQ.out
            have hnv : ¬ (BD ∧ level ≤ z) := fun h => by have := this.2 h; cases this
            have : ¬ level ≤ z := fun h => hnv ⟨hb, h⟩
            rw [hz]
            omega
          · exact hall.out j (by omega) hb), HKb.out⟩
        case measure => simp [intOf]; omega
      · have hno : ¬ LV := by
          rw [HL.out]
          intro h
          obtain ⟨h1, h2⟩ := HQ.out.1 rfl
          have := h k (by rw [← HN.out]; exact hlt) (by rw [hbd]; exact h1)
          rw [hz] at this
          omega
        go_wp2
        go_ret
        exact ⟨false, rfl, ⟨fun h => (by cases h), fun h => (by first | exact h.elim | exact absurd h hno)⟩, HWz.out _ HKb.out⟩
end Go.Proofs
